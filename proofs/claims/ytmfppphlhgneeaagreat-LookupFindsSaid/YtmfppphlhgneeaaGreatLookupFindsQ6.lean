/- What the proof needs, gathered by wip/gen/shake.py. -/
import Derived.Calls
import Derived.Deep.Quiet
import Derived.Below
import Derived.Laws.AppendOwn
import Derived.WalkKit
import Derived.Laws.OwnMore
import Derived.Deep.Slices
import Derived.ChangeOld
import Derived.ArgAppend
import Derived.RangeFuncIn
import Derived.RangeFuncRecord
import Derived.RangeFuncLeaves
import Derived.Laws.MakeOwn
import Derived.IntWalk
import Derived.Laws.IdiomStrings
import Derived.Laws.Cover3
import Derived.Laws.CopyOwn
import Derived.MapKept
import Derived.RangeFuncNested
import Derived.Test.YtmfppphlhgneeaaGreatRows
import Derived.ProofKit
import Derived.OpenShut
import Derived.ShutString
import Derived.Test.YtmfppphlhgneeaaGreatLookupFindsQ5
set_option linter.unusedVariables false
set_option linter.unusedSimpArgs false
set_option linter.unusedSectionVars false
section
namespace Go.Proofs.YtmfppphlhgneeaaGreat.Hh
set_option linter.unusedVariables false
open Alg (Cg Pr)
def mixl(A B:List Int)(j:Nat):List Int:=A.take j++B.drop j
section
variable{A B:List Int}(h:A.length=B.length)
include h
theorem Xf7(j:Nat):(mixl A B j).length=B.length:=by unfold mixl;simp;omega
theorem Xgd{j:Nat}(hj:j<B.length):Alg.gd (mixl A B j) j=Alg.gd B j:=by
 have:=Xll (l:=A.take j) (m:=B.drop j) 0
 rw[List.length_take,Nat.min_eq_left (by omega),Nat.add_zero,Xlm,Nat.add_zero] at this
 exact this
theorem Xf8{j:Nat}(hj:j<B.length):(mixl A B j).set j (Alg.gd A j)=mixl A B (j+1):=by
 unfold mixl
 rw[List.set_append_right _ _ (by rw[List.length_take];omega),List.length_take,Nat.min_eq_left (by omega),Nat.sub_self,List.drop_eq_getElem_cons hj,List.set_cons_zero,List.take_succ_eq_append_getElem (by omega),List.append_assoc,show Alg.gd A j=A[j]'(by omega) by simp [Alg.gd,List.getD_eq_getElem?_getD,show j<A.length by omega]]
 rfl
theorem Xf9:mixl A B B.length=A:=by unfold mixl;rw[List.take_of_length_le (by omega),List.drop_length,List.append_nil]
end
theorem Xiq(A B:List Int):mixl A B 0=B:=by simp [mixl]
def el_(p y:Int)(t l:List Int):List Int:=List.zipWith (fun a b=>(a+(p-y)*b)%p) t l
theorem Xir{p y:Int}{t l:List Int}(h:t.length=l.length):(el_ p y t l).length=t.length:=by simp [el_,h]
theorem Xux{p y:Int}(hp:2≤p)(t l:List Int):El p (el_ p y t l):=fun z hz=>by
 unfold el_ at hz
 obtain⟨i,hi,rfl⟩:=List.getElem_of_mem hz
 rw[List.getElem_zipWith]
 exact E1.emod hp _
theorem Xtw{p y:Int}{t l:List Int}(h:t.length=l.length){i:Nat}(hi:i<t.length):Alg.gd (el_ p y t l) i=(Alg.gd t i+(p-y)*Alg.gd l i)%p:=by
 have hi2:i<l.length:=by omega
 simp [Alg.gd,el_,List.getD_eq_getElem?_getD,List.getElem?_zipWith,hi,hi2]
theorem Xuy{p y:Int}{t l:List Int}(h:t.length=l.length)(i:Nat):Cg p (Alg.gd (el_ p y t l) i) (Alg.gd t i-y*Alg.gd l i):=by
 rcases Nat.lt_or_ge i t.length with hi |hi
 ·rw[Xtw h hi]
  exact(Cg.emod p _).trans (((Cg.refl p _).add (cgn p y _)).trans (Cg.of (by omega)))
 ·rw[Alg.Xds (l:=el_ p y t l) (by rw[Xir h];exact hi),Alg.Xds hi,Alg.Xds (by omega:l.length≤i)]
  exact Cg.of (by simp)
def rowsF(F:Nat→List Int)(R:List (List Int))(i:Nat):List (List Int):=(List.range i).map F++R.drop i
section
variable{F:Nat→List Int}{R:List (List Int)}{i:Nat}
theorem Xhk(h:i≤R.length):(rowsF F R i).length=R.length:=by simp [rowsF];omega
theorem Xjw{j:Nat}:gr (rowsF F R i) j=if j<i then F j else gr R j:=by
 unfold rowsF gr
 rw[List.getD_eq_getElem?_getD,List.getD_eq_getElem?_getD]
 split
 ·rename_i h
  rw[List.getElem?_append_left (by simpa using h)]
  simp [h]
 ·rename_i h
  rw[List.getElem?_append_right (by simp;omega)]
  simp only [List.length_map,List.length_range,List.getElem?_drop]
  rw[show i+(j-i)=j by omega]
theorem Xo3(h:i<R.length):(rowsF F R i).set i (F i)=rowsF F R (i+1):=by
 unfold rowsF
 rw[List.set_append_right _ _ (by simp),List.length_map,List.length_range,Nat.sub_self,List.drop_eq_getElem_cons h,List.set_cons_zero,List.range_succ,List.map_append,List.append_assoc]
 rfl
theorem Xmz(h:i<R.length)(he:F i=gr R i):rowsF F R (i+1)=rowsF F R i:=by
 unfold rowsF
 rw[List.drop_eq_getElem_cons h,List.range_succ,List.map_append,List.append_assoc,List.map_cons,List.map_nil,he,Xfb h]
 rfl
end
abbrev ER:=(List (List Int))×(List Int)
def elm(p:Int)(k r:Nat)(R:List (List Int))(i:Nat):List Int:=if i≠r∧Alg.gd (gr R i) k≠0 then el_ p (Alg.gd (gr R i) k) (gr R i) (gr R r) else gr R i
theorem Xtx{p:Int}(hp:2≤p){m k r:Nat}{R:List (List Int)}(hR:Rw p m R)(hr:r<R.length){i:Nat}(hi:i<R.length):(elm p k r R i).length=m∧El p (elm p k r R i):=by
 unfold elm
 split
 ·exact⟨by rw[Xir (by rw[(hR.gr hi).1,(hR.gr hr).1]),(hR.gr hi).1],Xux hp _ _⟩
 ·exact hR.gr hi
theorem Xq5{p:Int}(hp:2≤p∧p≤65521)(rec:(List (List Int))→Int→Int→Int→Option ER){i r:Nat}(hir:i≠r){E:List (List Int)}(hi:i<E.length)(hr:r<E.length){t l:List Int}(ht:El p t)(hl:El p l)(htl:t.length=l.length)(hel:gr E r=l){y:Int}(hy:E1 p y)(z1 z2 z3:Int):
  ∀(xs:List Int)(j:Nat),j+xs.length=t.length→X3a rec (i:Int) p (r:Int) y z1 z2 z3 xs j (E.set i (mixl (el_ p y t l) t j))=rec (E.set i (el_ p y t l)) z1 z2 z3
 | [],j,hj=>by
  rw[X3a]
  simp only [List.length_nil,Nat.add_zero] at hj
  rw[hj,Xf9 (Xir htl)]
 |x::xs,j,hj=>by
  simp only [List.length_cons] at hj
  show X7z rec (i:Int) p (r:Int) y z1 z2 z3 (X3a rec (i:Int) p (r:Int) y z1 z2 z3 xs (j+1)) x j _=_
  unfold X7z
  have hl2:=Xf7 (A:=el_ p y t l) (B:=t) (Xir htl) j
  have g1:gr (E.set i (mixl (el_ p y t l) t j)) i=mixl (el_ p y t l) t j:=by rw[Xgk hi,if_pos rfl]
  have g2:gr (E.set i (mixl (el_ p y t l) t j)) r=l:=by rw[Xgk hi,if_neg (Ne.symm hir)];exact hel
  rw[X9o (by simpa using hi),g1,Option.bind_some,Option.bind_some,X1x (by omega),Option.bind_some,X9o (by simpa using hr),g2,Option.bind_some,X1x (by omega),Option.bind_some,nzp hp,Option.bind_some,Option.bind_some,Xgd (Xir htl) (by omega),accn hp (El.gd hp.1 ht j) hy (El.gd hp.1 hl j), ← Xtw htl (by omega),X32 (by omega),Option.bind_some,Xf8 (Xir htl) (by omega),X32 (by simpa using hi),Option.bind_some,List.set_set]
  exact Xq5 hp rec hir hi hr ht hl htl hel hy z1 z2 z3 xs (j+1) (by omega)
theorem Xq6{p:Int}(hp:2≤p∧p≤65521){m k r:Nat}(hk:k<m){R:List (List Int)}(hR:Rw p m R)(hr:r<R.length)(kx:(List (List Int))→Int→Int→Int→Option ER)(z1 z2 z3:Int):∀(xs:List (List Int))(i:Nat),i+xs.length=R.length→
  X1a kx (k:Int) p (r:Int) xs i (rowsF (elm p k r R) R i) z1 z2 z3=kx (rowsF (elm p k r R) R R.length) z1 z2 z3
 | [],i,h=>by simp only [List.length_nil,Nat.add_zero] at h;rw[X1a,h]
 |x::xs,i,h=>by
  simp only [List.length_cons] at h
  have hi:i<R.length:=by omega
  have el:=Xhk (F:=elm p k r R) (R:=R) (i:=i) (by omega)
  show X80 kx (k:Int) p (r:Int) (X1a kx (k:Int) p (r:Int) xs (i+1)) x i _ z1 z2 z3=_
  unfold X80
  have hgi:=hR.gr hi
  have hgr:=hR.gr hr
  have gi:gr (rowsF (elm p k r R) R i) i=gr R i:=by rw[Xjw,if_neg (by omega)]
  have ih:=Xq6 hp hk hR hr kx z1 z2 z3 xs (i+1) (by omega)
  rw[X9o (by rw[el];exact hi),gi,Option.bind_some,X1x (by rw[hgi.1];exact hk),Option.bind_some]
  by_cases hc:i≠r∧Alg.gd (gr R i) k≠0
  ·rw[if_pos ⟨by omega,hc.2⟩,Option.bind_some]
   have e2:gr (rowsF (elm p k r R) R i) r=gr R r:=by
    rw[Xjw]
    split
    ·unfold elm;rw[if_neg (by simp)]
    ·rfl
   have hset:(rowsF (elm p k r R) R i).set i (gr R i)=rowsF (elm p k r R) R i:=by
    rw[← gi,Xfb (by rw[el];exact hi)];exact List.set_getElem_self _
   have:=Xq5 hp (X1a kx (k:Int) p (r:Int) xs (i+1)) hc.1 (E:=rowsF (elm p k r R) R i) (by rw[el];exact hi) (by rw[el];exact hr) hgi.2 hgr.2 (by rw[hgi.1,hgr.1]) e2 (El.gd hp.1 hgi.2 k) z1 z2 z3 (gr R i) 0 (by omega)
   rw[Xiq,hset] at this
   rw[this]
   have e3:el_ p (Alg.gd (gr R i) k) (gr R i) (gr R r)=elm p k r R i:=by unfold elm;rw[if_pos hc]
   rw[e3,Xo3 hi]
   exact ih
  ·rw[if_neg (fun h2=>hc ⟨by have:=h2.1;omega,h2.2⟩)]
   rw[← Xmz hi (by unfold elm;rw[if_neg hc])]
   exact ih
theorem Xq7{p:Int}(hp:2≤p∧p≤65521)(kx:(List (List Int))→Int→Int→Int→Option ER){r:Nat}{R:List (List Int)}(hr:r<R.length){t:List Int}(ht:El p t)(hn:t.length≤1000){b:Int}(hb:E1 p b)(z1 z2 z3:Int):∀(m f j:Nat),j+m=t.length→m<f→
  X4n kx p (r:Int) b (t.length:Int) z1 z2 z3 f (j:Int) (R.set r (mixl (scl p b t) t j))=kx (R.set r (scl p b t)) z1 z2 z3
 |m,0,j,_,h=>by omega
 |0,f+1,j,h,_=>by
  rw[X4n]
  unfold X81
  rw[if_neg (by omega),show j=t.length by omega,Xf9 (by simp [scl])]
 |m+1,f+1,j,h,hf=>by
  rw[X4n]
  unfold X81
  have hs:(scl p b t).length=t.length:=by simp [scl]
  have hl2:=Xf7 (A:=scl p b t) (B:=t) hs j
  have g1:gr (R.set r (mixl (scl p b t) t j)) r=mixl (scl p b t) t j:=by rw[Xgk hr,if_pos rfl]
  have g2:Alg.gd t j*b%p=Alg.gd (scl p b t) j:=by
   simp [scl,Alg.gd,List.getD_eq_getElem?_getD,show j<t.length by omega]
  rw[if_pos (by omega),X9o (by simpa using hr),g1,Option.bind_some,Option.bind_some,X1x (by omega),Option.bind_some,nzp hp,Option.bind_some,Option.bind_some,Xgd hs (by omega),mulm hp (El.gd hp.1 ht j) hb,g2,X32 (by omega),Option.bind_some,Xf8 hs (by omega),X32 (by simpa using hr),Option.bind_some,List.set_set,w64_id (by omega) (by omega),show(j:Int)+1=((j+1:Nat):Int) by omega]
  exact Xq7 hp kx hr ht hn hb z1 z2 z3 m f (j+1) (by omega) (by omega)
theorem Xq8{p:Int}{m k:Nat}(hk:k<m){R:List (List Int)}(hR:Rw p m R)(hn:R.length≤1000)(kx:Int→Int→Int→Int→Option ER)(z1 z2 z3:Int):∀(f r:Nat),r≤R.length→R.length-r<f→
  ∃i,X65 kx (k:Int) z1 z2 z3 R f (r:Int)=kx (i:Nat) z1 z2 z3∧r≤i∧i≤R.length∧(∀j,r≤j→j<i→Alg.gd (gr R j) k=0)∧(i<R.length→Alg.gd (gr R i) k≠0)
 |0,r,_,h=>by omega
 |f+1,r,h1,h2=>by
  rw[X65]
  unfold Xam
  by_cases hr:r<R.length
  ·rw[if_pos (by omega),X9o hr,Option.bind_some,X1x (by rw[(hR.gr hr).1];exact hk),Option.bind_some,Option.bind_some]
   by_cases h0:Alg.gd (gr R r) k=0
   ·rw[if_pos (by simp [h0]),w64_id (by omega) (by omega),show(r:Int)+1=((r+1:Nat):Int) by omega]
    obtain⟨i,a,b,c,d,e⟩:=Xq8 hk hR hn kx z1 z2 z3 f (r+1) (by omega) (by omega)
    refine⟨i,a,by omega,c,fun j hj1 hj2=>?_,e⟩
    by_cases hjr:j=r
    ·rw[hjr];exact h0
    ·exact d j (by omega) hj2
   ·rw[if_neg (by simp [h0])]
    exact⟨r,rfl,Nat.le_refl _,by omega,fun j _ _=>by omega,fun _=>h0⟩
  ·rw[if_neg (by omega),Option.bind_some,if_neg (by decide)]
   exact⟨r,rfl,Nat.le_refl _,h1,fun j _ _=>by omega,fun h=>absurd h hr⟩
def Lf:List Nat→Nat→Nat→Nat
 | [],_,_=>0
 |a::l,i,j=>if a=j then i+1 else Lf l (i+1) j
theorem Xjx:∀(l:List Nat)(i k:Nat),(∀a∈l,a<k)→Lf l i k=0
 | [],_,_,_=>rfl
 |a::l,i,k,h=>by
  have:=h a List.mem_cons_self
  rw[Lf,if_neg (by omega)]
  exact Xjx l (i+1) k fun b hb=>h b (List.mem_cons_of_mem _ hb)
theorem Xo4:∀(l:List Nat)(i k j:Nat),Lf (l++[k]) i j=if Lf l i j≠0 then Lf l i j else if k=j then i+l.length+1 else 0
 | [],i,k,j=>by simp [Lf]
 |a::l,i,k,j=>by
  rw[List.cons_append,Lf,Lf]
  by_cases h:a=j
  ·rw[if_pos h,if_pos h,if_pos (by omega)]
  ·rw[if_neg h,if_neg h,Xo4 l (i+1) k j,List.length_cons,show i+1+l.length=i+(l.length+1) by omega]
structure RJ(p:Int)(n m:Nat)(M0:Nat→Nat→Int)(k:Nat)(R:List (List Int))(ld:List Nat):Prop where
 len:R.length=n
 rw:Rw p m R
 lt:∀a∈ld,a<k
 asc:ld.Pairwise (· < ·)
 gi:Alg.GI p n m M0 (fun i j=>Alg.gd (gr R i) j) k ld.length (Lf ld 0)
theorem RJ.more{p:Int}{n m:Nat}{M0:Nat→Nat→Int}{R:List (List Int)}{ld:List Nat}(hl:ld.length=n):∀(d k:Nat),RJ p n m M0 k R ld→RJ p n m M0 (k+d) R ld
 |0,k,h=>h
 |d+1,k,h=>by
  have:=RJ.more hl d (k+1) {len:=h.len,rw:=h.rw,lt:=fun a ha=>by have:=h.lt a ha;omega,asc:=h.asc,gi:=h.gi.skip (fun i h1 h2=>by omega) (fun _ _=>rfl) (Xjx ld 0 k h.lt)}
  rwa [show k+1+d=k+(d+1) by omega] at this
def toI(l:List Nat):List Int:=l.map fun a:Nat=>(a:Int)
theorem Xo5{p:Int}(hf:Fp p){n c:Nat}(hn:n≤32)(hc:c≤32){M0:Nat→Nat→Int}(z1 z2:Int):∀(f k:Nat)(R:List (List Int))(ld:List Nat),k≤c→c-k<f→RJ p n (c+1) M0 k R ld→
  ∃R' ld',X7 p f (toI ld) (k:Int) R p z2 (c:Int)=some (R',toI ld')∧RJ p n (c+1) M0 c R' ld'
 |0,k,R,ld,_,h,_=>by omega
 |f+1,k,R,ld,h1,h2,h=>by
  have hp:=hf.rng
  have hlen:=h.len
  have hrn:=h.gi.rn
  have hll:(toI ld).length=ld.length:=by simp [toI]
  rw[X7]
  unfold Xan
  rw[hll]
  by_cases hk:k<c∧ld.length<R.length
  ·rw[if_pos (by omega)]
   obtain⟨i,e1,i1,i2,i3,i4⟩:=Xq8 (k:=k) (m:=c+1) (by omega) h.rw (by omega) (X3c (X7 p f) (k:Int) p (ld.length:Int) (toI ld) R) p z2 (c:Int) big ld.length (by omega) (by simp only [big];omega)
   rw[e1]
   unfold X3c
   by_cases hi:i=R.length
   ·rw[if_pos (by omega),w64_id (by omega) (by omega),show(k:Int)+1=((k+1:Nat):Int) by omega]
    exact Xo5 hf hn hc z1 z2 f (k+1) R ld (by omega) (by omega) {len:=h.len,rw:=h.rw,lt:=fun a ha=>by have:=h.lt a ha;omega,asc:=h.asc,gi:=h.gi.skip (fun j hj1 hj2=>Cg.of (i3 j hj1 (by omega))) (fun _ _=>rfl) (Xjx ld 0 k h.lt)}
   ·have hi:i<R.length:=by omega
    have hr:ld.length<R.length:=hk.2
    have hG:=h.gi
    generalize hrr:ld.length=r at*
    rw[if_neg (by omega),X9o hr,X9o hi,Option.bind_some,Option.bind_some,Option.bind_some,Option.bind_some,X32 hi,Option.bind_some,X32 (by simpa using hr),Option.bind_some]
    generalize hRs:(R.set i (gr R r)).set r (gr R i)=Rs
    have gs:∀j,gr Rs j=if j=r then gr R i else if j=i then gr R r else gr R j:=fun j=>by rw[← hRs];exact Xrr hi hr j
    have ls:Rs.length=R.length:=by rw[← hRs];simp
    have ws:Rw p (c+1) Rs:=by
     rw[← hRs]
     exact(h.rw.set (h.rw.gr hr).1 (h.rw.gr hr).2).set (h.rw.gr hi).1 (h.rw.gr hi).2
    have gsr:gr Rs r=gr R i:=by rw[gs,if_pos rfl]
    have hrs:r<Rs.length:=by omega
    have hgi:=h.rw.gr hi
    unfold Xal
    obtain⟨b,b1,b2,b3⟩:=hf.inv _ (El.gd hp.1 hgi.2 k) (i4 hi)
    rw[X9o hrs,gsr,Option.bind_some,X1x (by rw[hgi.1];omega),Option.bind_some,b1,Option.bind_some,Option.bind_some]
    have l5:=Xq7 hp (X3b (X7 p f) (k:Int) p (r:Int) (toI ld)) (R:=Rs) hrs hgi.2 (by omega) b2 p z2 (c:Int) (gr R i).length big 0 (by omega) (by simp only [big];omega)
    have e5:Rs.set r (gr R i)=Rs:=by
     rw[← gsr,Xfb hrs];exact List.set_getElem_self hrs
    rw[Xiq,e5,show((0:Nat):Int)=0 from rfl] at l5
    rw[l5]
    generalize hRt:Rs.set r (scl p b (gr R i))=Rt
    have gt:∀j,gr Rt j=if j=r then scl p b (gr R i) else gr Rs j:=fun j=>by rw[← hRt];exact Xgk hrs
    have lt:Rt.length=R.length:=by rw[← hRt];simp [ls]
    have wt:Rw p (c+1) Rt:=by rw[← hRt];exact ws.set (by simp [scl,hgi.1]) (Xtg hp.1 _)
    unfold X3b
    have l3:=Xq6 hp (k:=k) (m:=c+1) (by omega) wt (r:=r) (by omega) (X1l (X7 p f) (k:Int) (toI ld)) p z2 (c:Int) Rt 0 (by omega)
    have e6:rowsF (elm p k r Rt) Rt 0=Rt:=by simp [rowsF]
    rw[e6] at l3
    rw[l3]
    unfold X1l
    rw[Xe (by rw[hll];simp;omega),Option.bind_some,w64_id (by omega) (by omega),show(k:Int)+1=((k+1:Nat):Int) by omega,show toI ld++[(k:Int)]=toI (ld++[k]) by simp [toI]]
    have gfin:∀j,j<Rt.length→gr (rowsF (elm p k r Rt) Rt Rt.length) j=elm p k r Rt j:=fun j hj=>by rw[Xjw,if_pos hj]
    have gtr:gr Rt r=scl p b (gr R i):=by rw[gt,if_pos rfl]
    refine Xo5 hf hn hc z1 z2 f (k+1) _ (ld++[k]) (by omega) (by omega) {len:=by rw[Xhk (Nat.le_refl _),lt,hlen],rw:=fun x hx=>?_,lt:=fun a ha=>?_,asc:=?_,gi:=?_}
    ·obtain⟨j,hj,rfl⟩:=List.getElem_of_mem hx
     have hj':j<Rt.length:=by rwa [Xhk (Nat.le_refl _)] at hj
     rw[← Xfb hj,gfin j hj']
     exact Xtx hp.1 wt (by omega) hj'
    ·rcases List.mem_append.1 ha with h2 |h2
     ·have:=h.lt a h2;omega
     ·rw[List.mem_singleton.1 h2];omega
    ·refine List.pairwise_append.2 ⟨h.asc,List.pairwise_singleton _ _,fun a ha b hb=>?_⟩
     rw[List.mem_singleton.1 hb];exact h.lt a ha
    ·rw[List.length_append,List.length_singleton,hrr]
     refine hG.lead i i1 (by omega) b b3 (fun j hj=>?_) (fun i' hi' hne j hj=>?_) (by omega) (fun j hj=>?_) ?_
     ·rw[gfin r (by omega)]
      have:elm p k r Rt r=scl p b (gr R i):=by unfold elm;rw[if_neg (by simp),gtr]
      rw[this];exact Xtf _ _
     ·rw[gfin i' (by omega),gfin r (by omega)]
      have er:elm p k r Rt r=gr Rt r:=by unfold elm;rw[if_neg (by simp)]
      have es:gr Rt i'=gr Rs i':=by rw[gt,if_neg hne]
      have ew:∀q,Alg.swp r i (fun i j=>Alg.gd (gr R i) j) i' q=Alg.gd (gr Rs i') q:=fun q=>by
       unfold Alg.swp
       rw[if_neg hne,gs,if_neg hne]
       by_cases e:i'=i
       ·rw[if_pos e,if_pos e]
       ·rw[if_neg e,if_neg e]
      rw[er,ew,ew]
      have hi2:i'<Rt.length:=by omega
      unfold elm
      by_cases h0:Alg.gd (gr Rt i') k=0
      ·rw[if_neg (by simp [h0]), ← es,h0]
       exact Cg.of (by simp)
      ·rw[if_pos ⟨hne,h0⟩]
       refine(Xuy (by rw[(wt.gr hi2).1,(wt.gr (i:=r) (by omega)).1]) j).trans ?_
       rw[es]
       exact Cg.refl p _
     ·rw[Xo4]
      by_cases h9:Lf ld 0 j≠0
      ·rw[if_pos h9]
      ·rw[if_neg h9,if_neg (by omega)]
       exact(Classical.not_not.1 h9).symm
     ·rw[Xo4,Xjx ld 0 k h.lt,if_neg (by simp),if_pos rfl,hrr];omega
  ·rw[if_neg (by omega)]
   refine⟨R,ld,rfl,?_⟩
   by_cases hkc:k=c
   ·subst hkc;exact h
   ·have:=RJ.more (d:=c-k) (by omega:ld.length=n) k h
    rwa [show k+(c-k)=c by omega] at this
end Go.Proofs.YtmfppphlhgneeaaGreat.Hh
end

section
namespace Go.Proofs.YtmfppphlhgneeaaGreat.Hh
set_option linter.unusedVariables false
open Alg (Cg Pr)
theorem Xo6{p:Int}{c:Nat}{C:List (List Int)}{Rt:List Int}(hC:Rw p c C)(h:Rt.length=C.length)(hn:C.length≤32)(hc:c≤32)(kx:(List (List Int))→Int→Int→Int→Option ER):∀(f i:Nat),i≤C.length→C.length-i<f→
  X4w kx p (C.length:Int) (c:Int) C.flatten Rt f ((aug C Rt).take i) (i:Int)=kx (aug C Rt) p (C.length:Int) (c:Int)
 |0,i,_,h=>by omega
 |f+1,i,h1,h2=>by
  have hal:=Xjt h
  rw[X4w]
  unfold X9e
  by_cases hi:i<C.length
  ·have hm1:i*c≤32*32:=Nat.mul_le_mul (by omega) hc
   have hm2:(i+1)*c≤C.length*c:=Nat.mul_le_mul_right _ hi
   have hm3:C.length*c≤32*32:=Nat.mul_le_mul hn hc
   have hm4:(i+1)*c=i*c+c:=by rw[Nat.add_mul,Nat.one_mul]
   rw[if_pos (by omega),w64_id (x:=(i:Int)+1) (by omega) (by omega),show(i:Int)*(c:Int)=((i*c:Nat):Int) by simp,show((i:Int)+1)*(c:Int)=(((i+1)*c:Nat):Int) by simp,w64_id (x:=((i*c:Nat):Int)) (by omega) (by omega),w64_id (x:=(((i+1)*c:Nat):Int)) (by omega) (by omega),Xas (by omega) (by omega) (by rw[Xhh C hC];omega)]
   simp only [Option.bind_some]
   have e1:((C.flatten.drop ((i*c:Nat):Int).toNat).take ((((i+1)*c:Nat):Int)-((i*c:Nat):Int)).toNat)=gr C i:=by
    rw[Int.toNat_natCast,show((((i+1)*c:Nat):Int)-((i*c:Nat):Int)).toNat=c by omega]
    exact Xkx C i hC hi
   have hg:=hC.gr hi
   rw[e1,X1x (by omega),Option.bind_some,Xe (by simp;omega),Option.bind_some,List.nil_append,Xe (by simp;omega),Option.bind_some,Xe (by simp;omega),Option.bind_some,show(i:Int)+1=((i+1:Nat):Int) by omega]
   have e2:(aug C Rt).take i++[gr C i++[Alg.gd Rt i]]=(aug C Rt).take (i+1):=by
    rw[List.take_succ_eq_append_getElem (by omega), ← Xfb (by omega),Xnv h hi]
   rw[e2]
   exact Xo6 hC h hn hc kx f (i+1) (by omega) (by omega)
  ·rw[if_neg (by omega),List.take_of_length_le (by omega)]
theorem Xq9{p:Int}{c:Nat}(kx:Int→Int→Int→Option IR)(z1 z2:Int):∀(xs:List (List Int)),Rw p (c+1) xs→(∀x∈xs,Alg.gd x c=0)→X5o kx z1 z2 (c:Int) xs=kx z1 z2 (c:Int)
 | [],_,_=>rfl
 |x::xs,h,h2=>by
  obtain⟨⟨a,b⟩,h⟩:=Rw.cons.1 h
  show X95 kx z1 z2 (c:Int) (X5o kx z1 z2 (c:Int) xs) x=_
  unfold X95
  rw[X1x (by omega),Option.bind_some,h2 x List.mem_cons_self,if_neg (by simp)]
  exact Xq9 kx z1 z2 xs h fun y hy=>h2 y (List.mem_cons_of_mem _ hy)
theorem Xm9{l:List Int}{i:Nat}{y:Int}(h:i<l.length)(j:Nat):Alg.gd (l.set i y) j=if j=i then y else Alg.gd l j:=by
 unfold Alg.gd
 rw[List.getD_eq_getElem?_getD,List.getD_eq_getElem?_getD,List.getElem?_set]
 by_cases e:i=j
 ·subst e;simp [h]
 ·rw[if_neg e,if_neg (Ne.symm e)]
theorem Xqa{p:Int}{c:Nat}{R:List (List Int)}(hR:Rw p (c+1) R)(hp:2≤p):∀(xs:List Nat)(i:Nat)(v:List Int),i+xs.length≤R.length→xs.Pairwise (· < ·)→(∀a∈xs,a<c)→v.length=c→El p v→
  ∃v',X5m R (c:Int) (toI xs) i v=some (v',0)∧v'.length=c∧El p v'∧∀j,Alg.gd v' j=if Lf xs i j≠0 then Alg.gd (gr R (Lf xs i j-1)) c else Alg.gd v j
 | [],i,v,_,_,_,hv,he=>⟨v,rfl,hv,he,fun j=>by simp [Lf]⟩
 |a::xs,i,v,h1,h2,h3,hv,he=>by
  simp only [List.length_cons] at h1
  obtain⟨g1,g2⟩:=List.pairwise_cons.1 h2
  have ha:=h3 a List.mem_cons_self
  have hri:=hR.gr (i:=i) (by omega)
  show ∃v',X94 R (c:Int) (X5m R (c:Int) (toI xs) (i+1)) (a:Int) i v=_∧_
  unfold X94
  rw[X9o (by omega),Option.bind_some,X1x (by omega),Option.bind_some,X1x (by omega),Option.bind_some,X32 (by omega),Option.bind_some]
  obtain⟨v',e1,e2,e3,e4⟩:=Xqa hR hp xs (i+1) (v.set a (Alg.gd (gr R i) c)) (by omega) g2 (fun b hb=>h3 b (List.mem_cons_of_mem _ hb)) (by simpa using hv) (fun y hy=>by
   rcases List.mem_or_eq_of_mem_set hy with h |rfl
   ·exact he y h
   ·exact El.gd hp hri.2 c)
  refine⟨v',e1,e2,e3,fun j=>?_⟩
  rw[e4,Xm9 (by omega),Lf]
  by_cases e:a=j
  ·subst e
   have hno:Lf xs (i+1) a=0:=by
    have aux:∀(l:List Nat)(i:Nat),(∀b∈l,a<b)→Lf l i a=0:=by
     intro l
     induction l with
     |nil=>exact fun _ _=>rfl
     |cons b l ih=>
      intro i hb
      have:=hb b List.mem_cons_self
      rw[Lf,if_neg (by omega)]
      exact ih (i+1) fun d hd=>hb d (List.mem_cons_of_mem _ hd)
    exact aux xs (i+1) g1
   rw[hno,if_neg (by simp),if_pos rfl,if_pos rfl,if_pos (by omega),Nat.add_sub_cancel]
  ·rw[if_neg e,if_neg (Ne.symm e)]
theorem Xph{p:Int}(hf:Fp p){c:Nat}{C:List (List Int)}{Rt:List Int}(hC:Rw p c C)(hRt:El p Rt)(h:Rt.length=C.length)(hn:C.length≤32)(hc:c≤32){x0:Nat→Int}(hx:Alg.SolM p C.length (c+1) (fun i j=>Alg.gd (gr (aug C Rt) i) j) x0)(hx1:x0 c= -1):
  ∃x,Xcy (p,(C.length:Int),(c:Int),C.flatten,Rt)=some (x,0)∧x.length=c∧El p x∧Alg.SolM p C.length (c+1) (fun i j=>Alg.gd (gr (aug C Rt) i) j) (fun j=>if j<c then Alg.gd x j else -1):=by
 have hp:=hf.rng
 have hfl:=Xhh C hC
 have hm3:C.length*c≤32*32:=Nat.mul_le_mul hn hc
 unfold Xcy Xe4
 dsimp only
 rw[hf.ck,Option.bind_some,if_neg (by decide),if_neg (by omega),show(C.length:Int)*(c:Int)=((C.length*c:Nat):Int) by simp,w64_id (by omega) (by omega),if_neg (by omega),Xi9 hf (Xrs hC),Option.bind_some,if_neg (by decide),Xi9 hf hRt,Option.bind_some,Option.bind_some,if_neg (by decide),Option.bind_some,if_neg (by decide)]
 unfold Xd8
 dsimp only
 have l11:=Xo6 hC h hn hc (X2t p) big 0 (by omega) (by simp only [big];omega)
 rw[List.take_zero,show(((0:Nat)):Int)=0 from rfl] at l11
 rw[l11]
 unfold X2t
 have hal:=Xjt h
 obtain⟨R,ld,e1,hI⟩:=Xo5 hf hn hc (M0:=fun i j=>Alg.gd (gr (aug C Rt) i) j) p (C.length:Int) big 0 (aug C Rt) [] (by omega) (by simp only [big];omega) {len:=hal,rw:=Xth h hC hRt,lt:=by simp,asc:=List.Pairwise.nil,gi:=Alg.GI.start _ _ _ _ _}
 rw[show(((0:Nat)):Int)=0 from rfl] at e1
 rw[show([]:List Int)=toI [] from rfl,e1,Option.bind_some]
 have hlen:=hI.len
 have hrn:=hI.gi.rn
 have hll:(toI ld).length=ld.length:=by simp [toI]
 have hright:=hI.gi.right hx hx1
 have hz:∀i,ld.length≤i→i<C.length→Alg.gd (gr R i) c=0:=fun i h1 h2=>by
  have:=El.gd hp.1 (hI.rw.gr (i:=i) (by omega)).2 c
  exact(hright i h1 h2).small this.1 this.2
 dsimp only
 rw[hll,Xas (by omega) (by omega) (by omega),Option.bind_some]
 rw[Xq9 (p:=p) _ _ _ _ (fun x hx=>hI.rw x (List.mem_of_mem_drop (List.mem_of_mem_take hx))) (fun x hx=>by
  have hx:=List.mem_of_mem_take hx
  obtain⟨i,hi,rfl⟩:=List.getElem_of_mem hx
  rw[List.getElem_drop, ← Xfb]
  simp only [List.length_drop,Int.toNat_natCast] at hi
  exact hz _ (by simp) (by rw[Int.toNat_natCast];omega))]
 unfold X5n
 rw[lmk_ok _ (by omega),Option.bind_some]
 obtain⟨x,g1,g2,g3,g4⟩:=Xqa hI.rw hp.1 ld 0 (List.replicate c 0) (by omega) hI.asc hI.lt (by simp) (X9h hp.1 c)
 rw[g1]
 refine⟨x,rfl,g2,g3,hI.gi.solves hright (fun j hj=>?_) (by simp)⟩
 rw[if_pos hj,g4 j,Xcf]
 by_cases h0:Lf ld 0 j=0
 ·rw[if_neg (by simp [h0]),if_pos h0];exact Cg.refl p _
 ·rw[if_pos h0,if_neg h0];exact Cg.refl p _
abbrev DT:=(List Int)×(List Int)×Int
theorem Xqb{p:Int}(hp:2≤p∧p≤65521)(rec:Int→(List Int)→(List Int)→Int→Option DT){b:List Int}(hb:El p b){q:Int}(hq:E1 p q)(Q:List Int){i:Nat}:∀(xs:List Int)(k:Nat)(A:List Int),b.drop k=xs→k≤b.length→i+b.length≤A.length→A.length≤1000→El p A→
  ∃A',X4o rec (i:Int) q p Q xs k A=rec (w64 ((i:Int)-1)) A' Q p∧A'.length=A.length∧El p A'∧∀j,Alg.gd A' j=if i+k≤j∧j<i+b.length then(Alg.gd A j+(p-q)*Alg.gd b (j-i))%p else Alg.gd A j
 | [],k,A,hd,hk,_,_,he=>⟨A,rfl,rfl,he,fun j=>by
   have:=List.drop_eq_nil_iff.1 hd
   rw[if_neg (by omega)]⟩
 |y::xs,k,A,hd,hk,hA,hl,he=>by
  have hlt:k<b.length:=by
   rcases Nat.lt_or_ge k b.length with h |h
   ·exact h
   ·rw[List.drop_eq_nil_of_le h] at hd;cases hd
  have hy:y=Alg.gd b k:=by
   rw[List.drop_eq_getElem_cons hlt] at hd
   rw[← (List.cons.inj hd).1];simp [Alg.gd,List.getD_eq_getElem?_getD,hlt]
  show ∃A',X82 rec (i:Int) q p Q (X4o rec (i:Int) q p Q xs (k+1)) y k A=_∧_
  unfold X82
  rw[w64_id (x:=(i:Int)+(k:Int)) (by omega) (by omega),show(i:Int)+(k:Int)=((i+k:Nat):Int) by omega,X1x (by omega),Option.bind_some,nzp hp,Option.bind_some,Option.bind_some,hy,accn hp (El.gd hp.1 he _) hq (El.gd hp.1 hb k),X32 (by omega),Option.bind_some]
  obtain⟨A',e1,e2,e3,e4⟩:=Xqb hp rec hb hq Q (i:=i) xs (k+1) (A.set (i+k) ((Alg.gd A (i+k)+(p-q)*Alg.gd b k)%p)) (by rw[← List.drop_drop,hd];rfl) (by omega) (by simpa using hA) (by simpa using hl) (fun z hz=>by
   rcases List.mem_or_eq_of_mem_set hz with h |rfl
   ·exact he z h
   ·exact E1.emod hp.1 _)
  refine⟨A',e1,by simpa using e2,e3,fun j=>?_⟩
  rw[e4,Xm9 (by omega)]
  by_cases hj:j=i+k
  ·rw[if_neg (by omega),if_pos hj,if_pos (by omega),hj,Nat.add_sub_cancel_left]
  ·rw[if_neg hj]
   by_cases h2:i+(k+1)≤j∧j<i+b.length
   ·rw[if_pos h2,if_pos (by omega)]
   ·rw[if_neg h2,if_neg (by omega)]
theorem Xma(i:Nat)(b:List Int)(j:Nat):Alg.gd (List.replicate i 0++b) j=if j<i then 0 else Alg.gd b (j-i):=by
 by_cases h:j<i
 ·rw[if_pos h,Xkw j (by simpa using h),Xcf]
 ·rw[if_neg h]
  have:=Xll (l:=List.replicate i (0:Int)) (m:=b) (j-i)
  rw[List.length_replicate,show i+(j-i)=j by omega] at this
  exact this
theorem Xqc{p:Int}(hp:2≤p∧p≤65521){E a:List Int}(hE:El p (E++[1])){by_:Int}(hb:E1 p by_)(hby:Cg p by_ 1){la:Nat}(hla:la≤1000):∀(m f:Nat)(A Q:List Int),m<f→A.length=la→Q.length=la-E.length→m≤Q.length→El p A→El p Q→(∀j,j<m→Alg.gd Q j=0)→(∀j,m+E.length≤j→Alg.gd A j=0)→
  (∀x,Cg p (Alg.pv a x) (Alg.pv Q x*Alg.pv (E++[1]) x+Alg.pv A x))→
  ∃Q' r,X1m X1b (E++[1]) by_ f ((m:Int)-1) A Q p=some (trim Q',trim r,0)∧El p Q'∧El p r∧Q'.length=la-E.length∧r.length≤E.length∧∀x,Cg p (Alg.pv a x) (Alg.pv Q' x*Alg.pv (E++[1]) x+Alg.pv r x)
 |m,0,_,_,h,_,_,_,_,_,_,_,_=>by omega
 |0,f+1,A,Q,_,lA,lQ,_,EA,EQ,hz,hzA,hpv=>by
  rw[X1m]
  unfold X83
  rw[if_neg (by omega)]
  unfold X1b
  rw[Xhj (by omega),Option.bind_some,Xhj (by omega),Option.bind_some]
  have hg:∀i,Alg.gd A i=Alg.gd (A.take E.length) i:=fun i=>by
   rcases Nat.lt_or_ge i E.length with h |h
   ·rw[Xnu i h]
   ·rw[hzA i (by omega),Alg.Xds (by rw[List.length_take];omega)]
  refine⟨Q,A.take E.length,by rw[Xju hg],EQ,fun x hx=>EA x (List.mem_of_mem_take hx),lQ,by rw[List.length_take];omega,fun x=>?_⟩
  exact(hpv x).trans ((Cg.refl p _).add (Xpf (fun i=>Cg.of (hg i)) x))
 |i+1,f+1,A,Q,hf,lA,lQ,hm,EA,EQ,hz,hzA,hpv=>by
  rw[X1m]
  unfold X83
  have lb:(E++[1]:List Int).length=E.length+1:=by simp
  rw[show((i+1:Nat):Int)-1=(i:Int) by omega,if_pos (by omega),lb,w64_id (x:=(i:Int)+((E.length+1:Nat):Int)) (by omega) (by omega),w64_id (by omega) (by omega),show(i:Int)+((E.length+1:Nat):Int)-1=((i+E.length:Nat):Int) by omega,X1x (by omega),Option.bind_some,nzp hp,Option.bind_some,X1x (by omega),Option.bind_some,mulm hp (El.gd hp.1 EA _) hb,X32 (by omega),Option.bind_some]
  generalize hq:Alg.gd A (i+E.length)*by_%p=q
  have hq1:E1 p q:=by rw[← hq];exact E1.emod hp.1 _
  have hqc:Cg p q (Alg.gd A (i+E.length)):=by
   rw[← hq]
   exact(Cg.emod p _).trans (((Cg.refl p _).mul hby).trans (Cg.of (by omega)))
  obtain⟨A',a1,a2,a3,a4⟩:=Xqb hp (X1m X1b (E++[1]) by_ f) hE hq1 (Q.set i q) (i:=i) (E++[1]) 0 A rfl (by omega) (by rw[lb];omega) (by omega) EA
  rw[a1,w64_id (by omega) (by omega)]
  have hc:∀j,Cg p (Alg.gd A' j) (Alg.gd A j-q*Alg.gd (List.replicate i 0++(E++[1])) j):=fun j=>by
   rw[a4,Xma]
   by_cases h1:j<i
   ·rw[if_neg (by omega),if_pos h1];exact Cg.of (by omega)
   ·rw[if_neg h1]
    by_cases h2:j<i+(E++[1]:List Int).length
    ·rw[if_pos (by omega)]
     exact(Cg.emod p _).trans (((Cg.refl p _).add (cgn p q _)).trans (Cg.of (by omega)))
    ·rw[if_neg (by omega),Alg.Xds (l:=E++[1]) (by omega)];exact Cg.of (by omega)
  refine Xqc hp hE hb hby hla i f A' (Q.set i q) (by omega) (by omega) (by simpa using lQ) (by simp;omega) a3 (fun y hy=>?_) (fun j hj=>?_) (fun j hj=>?_) (fun x=>?_)
  ·rcases List.mem_or_eq_of_mem_set hy with h |rfl
   ·exact EQ y h
   ·exact hq1
  ·rw[Xm9 (by omega),if_neg (by omega)];exact hz j (by omega)
  ·by_cases h1:j=i+E.length
   ·have h2:=hc j
    rw[Xma,if_neg (by omega),show j-i=E.length by omega,Xhg,h1] at h2
    have h3:=El.gd hp.1 a3 (i+E.length)
    rw[h1]
    refine Cg.small ?_ h3.1 h3.2
    exact h2.trans (((Cg.refl p _).sub (hqc.mul (Cg.refl p 1))).trans (Cg.of (by omega)))
   ·rw[a4,if_neg (by omega)];exact hzA j (by omega)
  ·have h2:Cg p (Alg.pv A' x) (Alg.pv A x-q*(x ^ i*Alg.pv (E++[1]) x)):=by
    have:=Xpf (p:=p) (l:=A') (m:=Alg.padd A (Alg.psc (-q) (List.replicate i 0++(E++[1])))) (fun j=>by
     rw[Alg.Xdi,Alg.Xgi]
     exact(hc j).trans (Cg.of (by rw[Int.neg_mul];omega))) x
    rw[Alg.Xd3,Alg.Xg5,Xky x (E++[1]) (List.replicate i 0),Alg.Xf5,List.length_replicate] at this
    exact this.trans (Cg.of (by rw[Int.neg_mul,Int.zero_add];omega))
   rw[Xq0 x Q i q (by omega) (hz i (by omega))]
   refine(hpv x).trans (Cg.symm (((Cg.refl p _).add h2).trans (Cg.of ?_)))
   rw[Int.add_mul,Int.mul_assoc];omega
theorem Xo7{p:Int}(hf:Fp p){E a:List Int}(ha:El p a)(hal:a.length≤500)(hE:El p E)(hEl:E.length≤500):
  ∃Q r,Xbt p a (E++[1])=some (trim Q,trim r,0)∧El p Q∧El p r∧Q.length≤a.length-E.length∧r.length≤E.length∧∀x,Cg p (Alg.pv a x) (Alg.pv Q x*Alg.pv (E++[1]) x+Alg.pv r x):=by
 have hp:=hf.rng
 have hE1:El p (E++[1]):=hE.app (El.cons.2 ⟨Xhi hp.1,El.nil⟩)
 have htl:=Xf6 a
 have htn:=Xlj a
 unfold Xbt
 rw[Xjv hf (by
  intro x hx
  simp only [List.mem_cons,List.not_mem_nil,or_false] at hx
  rcases hx with rfl |rfl
  ·exact⟨ha,by omega⟩
  ·exact⟨hE1,by simp;omega⟩),Option.bind_some,if_neg (by decide),Xhj (by omega),Option.bind_some,Xhj (by simp;omega),Option.bind_some,Xku E (by omega),if_neg (by simp;omega)]
 rw[show((E++[1]:List Int).length:Int)=((E.length+1:Nat):Int) by simp,w64_id (x:=((E.length+1:Nat):Int)-1) (by omega) (by omega),show((E.length+1:Nat):Int)-1=(E.length:Int) by omega,X1x (by simp),Option.bind_some,Xhg]
 obtain⟨b,b1,b2,b3⟩:=hf.inv 1 (Xhi hp.1) (by omega)
 rw[b1,Option.bind_some,w64_id (x:=((trim a).length:Int)-((E.length+1:Nat):Int)) (by omega) (by omega),w64_id (x:=((trim a).length:Int)-((E.length+1:Nat):Int)+1) (by omega) (by omega)]
 have em:max 0 (((trim a).length:Int)-((E.length+1:Nat):Int)+1)=(((trim a).length-E.length:Nat):Int):=by omega
 rw[em,lmk_ok _ (by omega),Option.bind_some,List.length_replicate,w64_id (by omega) (by omega)]
 obtain⟨Q,r,e1,e2,e3,e4,e5,e6⟩:=Xqc hp (a:=a) hE1 b2 (by rwa [Int.one_mul] at b3) (la:=(trim a).length) (by omega) ((trim a).length-E.length) big (trim a) (List.replicate ((trim a).length-E.length) 0) (by simp only [big];omega) rfl (by simp) (by simp) (Xlk ha) (X9h hp.1 _) (fun j _=>Xcf _ j) (fun j hj=>Alg.Xds (by omega)) (fun x=>by
  rw[Alg.Xf5,Int.zero_mul,Int.zero_add]
  exact(Xnw a x).symm)
 exact⟨Q,r,e1,e2,e3,by omega,e5,e6⟩
theorem Xo8{p:Int}(hf:Fp p){f g:List Int}(hg:El p g)(hgl:g.length≤512)(hfg:∀x,Cg p (Alg.pv g x) (Alg.pv f x)):∀(K:List (Int×Int))(acc:List Int),(∀q∈K,E1 p q.1∧E1 p q.2)→acc.length+K.length≤1000→
  X4b g p K acc=some (acc++(K.filter (Alg.bad p f)).map (·.1))
 | [],acc,_,_=>by simp [X4b]
 |q::K,acc,h,h2=>by
  simp only [List.length_cons] at h2
  obtain⟨hx,hy⟩:=h q List.mem_cons_self
  have ih:=fun acc=>Xo8 hf hg hgl hfg K acc (fun q' hq=>h q' (List.mem_cons_of_mem _ hq))
  show X96 g p (X4b g p K) q acc=_
  unfold X96
  obtain⟨v,v1,v2,v3⟩:=Xm7 hf hg hgl hx
  rw[v1,Option.bind_some]
  have hb:Alg.bad p f q=decide (v≠q.2):=by
   cases hb:Alg.bad p f q with
   |false=>
    have:=(((v3.trans (hfg _)).trans (Alg.Xhf hb))).eq v2.1 v2.2 hy.1 hy.2
    simp [this]
   |true=>
    have:v≠q.2:=fun e=>Alg.Xjr hb (((hfg _).symm.trans v3.symm).trans (Cg.of e))
    simp [this]
  rw[List.filter_cons,hb]
  by_cases hv:v≠q.2
  ·rw[if_pos hv,if_pos (by simp [hv]),Xe (by simp;omega),Option.bind_some,ih _ (by simp;omega)]
   simp
  ·rw[if_neg hv,if_neg (by simp [hv]),ih _ (by omega)]
theorem Xo9{p:Int}(hf:Fp p){l:List (Int×Bool)}(hl:l.length≤32)(hlp:(l.length:Int)<p)(hE:El p ((kn l 0).map (·.2))){k:Nat}(hk:1≤k)(hk2:k≤(kn l 0).length){f:List Int}(hfe:El p f)(hfl:f.length≤k){v:Nat}(hv:v=((kn l 0).length-k)/2)(hw:((kn l 0).filter (Alg.bad p f)).length≤v):
  Xbu p l (k:Int)=some ((trim f,((kn l 0).filter (Alg.bad p f)).map (·.1)),0):=by
 have hp:=hf.rng
 have hkl:=Xkv l 0
 obtain⟨r0,hr0⟩:=Xs1 hf hl hlp hE hk hk2
 unfold Xbu
 rw[hr0,Option.bind_some,if_neg (by simp),Xgq (by omega),Option.bind_some]
 unfold Xd7
 rw[if_neg (by omega),if_neg (by omega),Option.bind_some]
 have er:w64 (Int.tdiv (w64 (((kn l 0).length:Int)-(k:Int))) 2)=(v:Int):=by
  rw[w64_id (x:=((kn l 0).length:Int)-(k:Int)) (by omega) (by omega),Int.tdiv_eq_ediv_of_nonneg (by omega),w64_id (by omega) (by omega)]
  omega
 rw[er]
 have hK:k+v+v≤(kn l 0).length:=by omega
 obtain⟨C,Rt,e1,hKR⟩:=Xtv hf hl hlp hE hk hk2 (v:=v) (by omega)
 dsimp only
 rw[e1,Option.bind_some]
 obtain⟨hC,hRt⟩:=hKR.rw
 obtain⟨lC,lR⟩:=hKR.len
 have hlr:Rt.length=C.length:=by omega
 have hM:∀i (hi:i<(kn l 0).length) (j:Nat),j<k+v+v+1→Cg p (Alg.gd (gr (aug C Rt) i) j) (Alg.keyRow k v (kn l 0)[i] j):=fun i hi j hj=>by
  obtain⟨g1,g2⟩:=hKR.get i hi
  rw[Xnv hlr (by omega)]
  have hg:=(hC.gr (i:=i) (by omega)).1
  rcases Nat.lt_or_ge j (k+v+v) with h |h
  ·rw[Xkw j (by omega)];exact g1 j h
  ·have hj':j=k+v+v:=by omega
   rw[hj', ← hg,Xhg,hg];exact g2
 have hsum:∀(z:Nat→Int),Alg.SolM p C.length (k+v+v+1) (fun i j=>Alg.gd (gr (aug C Rt) i) j) z↔∀i (hi:i<(kn l 0).length),Cg p (Alg.sm (k+v+v+1) (fun j=>Alg.keyRow k v (kn l 0)[i] j*z j)) 0:=fun z=>by
  unfold Alg.SolM
  constructor
  ·intro h i hi
   exact(Alg.X9g fun j hj=>((hM i hi j hj).symm.mul (Cg.refl p (z j)))).trans (h i (by omega))
  ·intro h i hi
   exact(Alg.X9g fun j hj=>((hM i (by omega) j hj).mul (Cg.refl p (z j)))).trans (h i (by omega))
 obtain⟨Q0,E0,hQ0,hE0,hs0⟩:=Alg.Xks (p:=p) (f:=f) (K:=kn l 0) (k:=k) (v:=v) hfl hw
 obtain⟨x,x1,x2,x3,x4⟩:=Xph hf hC hRt hlr (by omega) (by omega) (x0:=Alg.keySol k v Q0 E0) ((hsum _).2 fun i hi=>by
  rw[Alg.Xno k v Q0 E0 hQ0 hE0]
  exact hs0 _ (List.getElem_mem hi)) (by unfold Alg.keySol;rw[if_neg (by omega),if_neg (by omega)])
 rw[x1,Option.bind_some,if_neg (by simp)]
 dsimp only
 rw[w64_id (x:=(k:Int)+(v:Int)) (by omega) (by omega),Xas (by omega) (by omega) (by omega),Option.bind_some]
 have eQ:((x.drop (0:Int).toNat).take ((k:Int)+(v:Int)-0).toNat)=x.take (k+v):=by
  rw[show((k:Int)+(v:Int)-0).toNat=k+v by omega];simp
 have eE:((x.drop ((k:Int)+(v:Int)).toNat).take ((x.length:Int)-((k:Int)+(v:Int))).toNat)=x.drop (k+v):=by
  rw[show((k:Int)+(v:Int)).toNat=k+v by omega,List.take_of_length_le (by rw[List.length_drop];omega)]
 rw[eE,Xe (by simp;omega),Option.bind_some,List.nil_append,Xe (by simp;omega),Option.bind_some,Xas (by omega) (by omega) (by omega),Option.bind_some,eQ]
 generalize hQ:x.take (k+v)=Q
 generalize hEE:x.drop (k+v)=E
 have lQ:Q.length=k+v:=by rw[← hQ,List.length_take];omega
 have lE:E.length=v:=by rw[← hEE,List.length_drop];omega
 have EQ:El p Q:=fun y hy=>by rw[← hQ] at hy;exact x3 y (List.mem_of_mem_take hy)
 have EE:El p E:=fun y hy=>by rw[← hEE] at hy;exact x3 y (List.mem_of_mem_drop hy)
 have hsol:∀q∈kn l 0,Cg p (Alg.pv Q q.1-q.2*Alg.pv (E++[1]) q.1) 0:=fun q hq=>by
  obtain⟨i,hi,rfl⟩:=List.getElem_of_mem hq
  have:=(hsum _).1 x4 i hi
  rw[← Alg.Xno k v Q E (by omega) lE]
  refine(Cg.of (Alg.Xhd fun j hj=>?_)).trans this
  congr 1
  unfold Alg.keySol
  by_cases h1:j<k+v
  ·rw[if_pos h1,if_pos (by omega), ← hQ,Xnu j h1]
  ·rw[if_neg h1]
   by_cases h2:j<k+v+v
   ·rw[if_pos h2,if_pos h2, ← hEE,Xlm,show k+v+(j-(k+v))=j by omega]
   ·rw[if_neg h2,if_neg h2]
 have hz:=Alg.Xmx hf.pr hfl hw (by omega) (Xm2 hlp) (Q:=Q) (E:=E) (by omega) lE hsol
 obtain⟨g,r,d1,d2,d3,d4,d5,d6⟩:=Xo7 hf (E:=E) EQ (by omega) EE (by omega)
 rw[d1,Option.bind_some]
 obtain⟨hz1,hz2⟩:=Alg.Xlh hf.pr hfl (by omega) (Xm2 hlp) (g:=g) (r:=r) lE hz (by omega) (by omega) d6
 have hr:trim r=[]:=Xpg fun i=>by
  have:=El.gd hp.1 d3 i
  exact(hz2 i).small this.1 this.2
 have hg:trim g=trim f:=Xju fun i=>by
  have a1:=El.gd hp.1 d2 i
  have a2:=El.gd hp.1 hfe i
  have:=hz1 i
  rw[Alg.Xdi,Alg.Xgi] at this
  exact((Cg.of_sub0 ((Cg.of (by omega)).trans this)).eq a2.1 a2.2 a1.1 a1.2).symm
 have htf:=Xf6 f
 have htn:=Xlj f
 rw[hr,hg,if_neg (by simp;omega)]
 unfold Xe5
 rw[Xgq (by omega),Option.bind_some,Xo8 hf (f:=f) (Xlk hfe) (by omega) (fun x=>Xnw f x) (kn l 0) [] (fun q hq=>by
  have:=Xgj l 0 q hq
  exact⟨⟨by omega,by omega⟩,hE _ (List.mem_map.2 ⟨q,hq,rfl⟩)⟩) (by simp;omega),Option.bind_some,List.nil_append,if_neg (by rw[List.length_map];omega)]
end Go.Proofs.YtmfppphlhgneeaaGreat.Hh
end

section
namespace Go.Proofs.YtmfppphlhgneeaaGreat.Hh
set_option linter.unusedVariables false
open Alg (Cg Pr)
abbrev Ans:=Bool×List Int
abbrev CR:=(List (List Int))×(List Int)×Int
theorem Xty(kx:(List (Int×Bool))→Int→Option CR){p:Int}{w j:Nat}(hj:j<w)(z:Int):∀(L:List Ans)(acc:List (Int×Bool)),AnsOK p w L→acc.length+L.length≤1000→X21 kx (j:Int) z L acc=kx (acc++col L j) z
 | [],acc,_,_=>by simp [X21,col]
 |a::L,acc,h,h2=>by
  obtain⟨h1,h⟩:=AnsOK.cons.1 h
  simp only [List.length_cons] at h2
  show X74 kx (j:Int) z (X21 kx (j:Int) z L) a acc=_
  unfold X74 X73
  have ih:=fun acc=>Xty kx hj z L acc h
  by_cases hk:a.1=true
  ·rw[if_pos hk,X1x (by rw[(h1 hk).1];exact hj),Option.bind_some,Xe (by simp;omega),Option.bind_some,ih _ (by simp;omega)]
   simp [col,hk]
  ·have hk':a.1=false:=by simpa using hk
   rw[if_neg hk,Xe (by simp;omega),Option.bind_some,ih _ (by simp;omega)]
   simp [col,hk']
theorem Xtz(rec:(List (List Int))→Int→(List Bool)→Int→Option CR)(c z:Int)(P:List (List Int)):∀(xs:List Int)(b:List Bool),(∀x∈xs,0≤x∧x<b.length)→∃b',X3r rec c z P xs b=rec P (w64 (c+1)) b' z∧b'.length=b.length
 | [],b,_=>⟨b,rfl,rfl⟩
 |x::xs,b,h=>by
  obtain⟨h0,h1⟩:=h x List.mem_cons_self
  show ∃b',X72 rec c z P (X3r rec c z P xs) x b=_∧_
  unfold X72
  rw[Xec false h0 h1,Option.bind_some,X67 h0 h1,Option.bind_some]
  obtain⟨b',e1,e2⟩:=Xtz rec c z P xs (b.set x.toNat true) fun y hy=>by rw[List.length_set];exact h y (List.mem_cons_of_mem _ hy)
  exact⟨b',e1,by simpa using e2⟩
theorem Xs2(P:List (List Int)):∀(b:List Bool)(i:Nat)(v:List Int),v.length+b.length≤1000→∃w,X3q P b i v=some (P,w,0)
 | [],i,v,_=>⟨v,rfl⟩
 |x::b,i,v,h=>by
  simp only [List.length_cons] at h
  show ∃w,X71 P (X3q P b (i+1)) x i v=_
  unfold X71
  by_cases hx:x=true
  ·rw[if_pos hx,Xe (by simp;omega),Option.bind_some]
   exact Xs2 P b (i+1) _ (by simp;omega)
  ·rw[if_neg hx]
   exact Xs2 P b (i+1) v (by omega)
theorem Xu0{p:Int}(hf:Fp p){w:Nat}(hw:w≤64){L:List Ans}(h:AnsOK p w L)(hL:L.length≤10)(hLp:(L.length:Int)<p){k:Nat}(hk:1≤k)(hn:k≤nk L){F:Nat→List Int}(hF:∀j,j<w→Fit p k L j (F j)):∀(f c:Nat)(b:List Bool),c≤w→w-c<f→b.length=L.length+1→
  ∃wrong,Xh Xc (k:Int) (w:Int) L f ((List.range c).map fun j=>trim (F j)) (c:Int) b p=some ((List.range w).map fun j=>trim (F j),wrong,0)
 |0,c,b,_,h2,_=>by omega
 |f+1,c,b,h1,h2,hb=>by
  rw[Xh]
  unfold X9f
  by_cases hc:c<w
  ·rw[if_pos (by omega),Xty _ hc p L [] h (by simp;omega),List.nil_append]
   unfold X2u
   have hfit:=hF c hc
   have hcl:=Xrt L c
   have hkl:=Xio L c 0
   rw[Xo9 hf (l:=col L c) (by omega) (by omega) (Xkz hf.rng.1 L c 0 h) hk (by omega) hfit.el hfit.len rfl (by rw[hkl];exact hfit.few),Option.bind_some,if_neg (by simp)]
   dsimp only
   rw[Xe (by simp;omega),Option.bind_some]
   obtain⟨b',e1,e2⟩:=Xtz (Xh Xc (k:Int) (w:Int) L f) (c:Int) p (((List.range c).map fun j=>trim (F j))++[trim (F c)]) (((kn (col L c) 0).filter (Alg.bad p (F c))).map (·.1)) b (fun x hx=>by
    obtain⟨q,hq,rfl⟩:=List.mem_map.1 hx
    have:=Xgj (col L c) 0 q (List.mem_filter.1 hq).1
    omega)
   rw[e1,w64_id (by omega) (by omega),show(c:Int)+1=((c+1:Nat):Int) by omega]
   have er:((List.range c).map fun j=>trim (F j))++[trim (F c)]=(List.range (c+1)).map fun j=>trim (F j):=by rw[List.range_succ,List.map_append];rfl
   rw[er]
   exact Xu0 hf hw h hL hLp hk hn hF f (c+1) b' (by omega) (by omega) (by omega)
  ·rw[if_neg (by omega),show c=w by omega]
   unfold Xc
   exact Xs2 _ b 0 [] (by simp;omega)
theorem Xs3{p:Int}(hf:Fp p){w:Nat}(kx:Int→Option CR):∀L:List Ans,AnsOK p w L→X3t kx p L=kx p
 | [],_=>rfl
 |a::L,h=>by
  obtain⟨h1,h⟩:=AnsOK.cons.1 h
  show X75 kx p (X3t kx p L) a=_
  unfold X75
  by_cases hk:a.1=true
  ·rw[if_pos hk,Xi9 hf (h1 hk).2,Option.bind_some,Option.bind_some,if_neg (by decide)]
   exact Xs3 hf kx L h
  ·rw[if_neg hk,Option.bind_some,if_neg (by decide)]
   exact Xs3 hf kx L h
theorem Xoa{p:Int}{w:Nat}(kx:Int→Int→Option CR)(z:Int):∀(L:List Ans)(n:Nat),AnsOK p w L→n+L.length≤1000→X25 kx (w:Int) z L (n:Int)=kx ((n+nk L:Nat):Int) z
 | [],n,_,_=>by simp [X25,nk]
 |a::L,n,h,h2=>by
  obtain⟨h1,h⟩:=AnsOK.cons.1 h
  simp only [List.length_cons] at h2
  show X66 kx (w:Int) z (X25 kx (w:Int) z L) a (n:Int)=_
  unfold X66
  by_cases hk:a.1=true
  ·rw[if_neg (by simp [hk]),if_neg (by have:=(h1 hk).1;omega),w64_id (by omega) (by omega),show(n:Int)+1=((n+1:Nat):Int) by omega,Xoa kx z L (n+1) h (by omega)]
   simp [nk,hk];congr 1;omega
  ·have hk':a.1=false:=by simpa using hk
   rw[if_pos (by simp [hk']),Xoa kx z L n h (by omega)]
   simp [nk,hk']
theorem Xis{p:Int}(hf:Fp p){w:Nat}(hw:w≤64){L:List Ans}(h:AnsOK p w L)(hL:L.length≤10)(hLp:(L.length:Int)<p){k:Nat}(hk:1≤k)(hn:k≤nk L){F:Nat→List Int}(hF:∀j,j<w→Fit p k L j (F j)):
  ∃wrong,X8h p (L.length:Int) (k:Int) (w:Int) L=some ((List.range w).map fun j=>trim (F j),wrong,0):=by
 unfold X8h
 have l11:=Xoa (X24 (L.length:Int) (k:Int) (w:Int) L) p L 0 h (by omega)
 rw[show(((0:Nat)):Int)=0 from rfl,Nat.zero_add] at l11
 rw[if_neg (by omega),if_neg (by simp),l11]
 unfold X24
 rw[Xs3 hf _ L h]
 unfold X3s
 rw[if_neg (by omega),w64_id (by omega) (by omega),show(L.length:Int)+1=((L.length+1:Nat):Int) by omega,lmk_ok _ (by omega),Option.bind_some]
 have:=Xu0 hf hw h hL hLp hk hn hF big 0 (List.replicate (L.length+1) false) (by omega) (by simp only [big];omega) (by simp)
 exact this
abbrev FR2:=((List Int)×(List Int))×Int
theorem Xu1{p:Int}(hf:Fp p)(kx:(List Int)→Int→Int→Int→Option FR2)(z1 z2:Int):∀(fs:List (List Int))(v:List Int),(∀f∈fs,El p f∧f.length≤512)→v.length+fs.length≤1000→X3e kx z1 z2 p (fs.map trim) v=kx (v++fs.map fun f=>Alg.gd f 0) z1 z2 p
 | [],v,_,_=>by simp [X3e]
 |f::fs,v,h,h2=>by
  simp only [List.length_cons] at h2
  obtain⟨f1,f2⟩:=h f List.mem_cons_self
  show X84 kx z1 z2 p (X3e kx z1 z2 p (fs.map trim)) (trim f) v=_
  unfold X84
  have hp:=hf.rng
  obtain⟨r,r1,r2,r3⟩:=Xm7 hf (l:=trim f) (Xlk f1) (by rw[Xf6];have:=Xlj f;omega) (Xln hp.1)
  have e:r=Alg.gd f 0:=by
   have h0:Alg.pv (trim f) 0=Alg.gd (trim f) 0:=by
    cases trim f with
    |nil=>rfl
    |cons a l=>simp [Alg.pv,Alg.gd]
   rw[h0,Xgc] at r3
   have:=El.gd hp.1 f1 0
   exact r3.eq r2.1 r2.2 this.1 this.2
  rw[r1,Option.bind_some,Xe (by simp;omega),Option.bind_some,Xu1 hf kx z1 z2 fs _ (fun g hg=>h g (List.mem_cons_of_mem _ hg)) (by simp;omega),e]
  simp
theorem cvcheck{p:Int}(hf:Fp p){s d:Nat}(h:PlanOK p s d):Xaz p ((s:Int),(d:Int))=some 0:=by
 obtain⟨p1,p2,p3,p4,p5⟩:=h
 unfold Xaz
 rw[hf.ck,Option.bind_some,if_neg (by decide)]
 dsimp only
 rw[w64_id (by omega) (by omega),if_neg (by omega)]
theorem Xpi{p:Int}(hf:Fp p){s d:Nat}(hs:PlanOK p s d){w:Nat}(hw:w≤64){L:List Ans}(h:AnsOK p w L)(hL:L.length=s)(hn:nk L=s){F:Nat→List Int}(hF:∀j,j<w→Fit p (d+1) L j (F j)):
  ∃wrong,Xbv p ((s:Int),(d:Int)) (w:Int) L=some (((List.range w).map fun j=>Alg.gd (F j) 0,wrong),0):=by
 have hs':=hs
 obtain⟨p1,p2,p3,p4,p5⟩:=hs'
 unfold Xbv
 rw[cvcheck hf hs,Option.bind_some,if_neg (by decide)]
 dsimp only
 obtain⟨wrong,hw2⟩:=Xis hf hw h (by omega) (by omega) (k:=d+1) (by omega) (by omega) hF
 rw[hL] at hw2
 rw[w64_id (by omega) (by omega),show(d:Int)+1=((d+1:Nat):Int) by omega,hw2,Option.bind_some,if_neg (by simp)]
 have:=Xu1 hf (X3d wrong) (s:Int) (d:Int) ((List.range w).map F) [] (fun f hf2=>by
  obtain⟨j,hj,rfl⟩:=List.mem_map.1 hf2
  have hfit:=hF j (List.mem_range.1 hj)
  exact⟨hfit.el,by have:=hfit.len;omega⟩) (by simp;omega)
 rw[List.map_map] at this
 rw[show((List.range w).map fun j=>trim (F j))=(List.range w).map (trim ∘ F) from rfl,this]
 refine⟨wrong,?_⟩
 unfold X3d
 rw[List.nil_append,List.map_map]
 rfl
theorem cdcheck{p:Int}(hf:Fp p){s D G:Nat}(h:StOK p s D G):X9k p ((s:Int),(D:Int),(G:Int))=some 0:=by
 obtain⟨p1,p2,p3,p4,p5,p6⟩:=h
 unfold X9k
 rw[hf.ck,Option.bind_some,if_neg (by decide)]
 dsimp only
 rw[w64_id (x:=2*(G:Int)) (by omega) (by omega),w64_id (x:=2*(G:Int)+D) (by omega) (by omega),w64_id (by omega) (by omega),if_neg (by omega)]
theorem Xu2(kx:(List Int)→Int→Int→Int→Int→Option CR)(i:Nat)(z1 z2 z3 z4:Int):∀(fs:List (List Int))(c:Nat)(v:List Int),c+fs.length≤v.length→(∀j,c≤j→Alg.gd v j=0)→
  X2h kx (i:Int) z1 z2 z3 z4 (fs.map trim) c v=kx (v.take c++(fs.map fun f=>Alg.gd f i)++v.drop (c+fs.length)) z1 z2 z3 z4
 | [],c,v,h,_=>by simp [X2h]
 |f::fs,c,v,h,h0=>by
  simp only [List.length_cons] at h
  show X85 kx (i:Int) z1 z2 z3 z4 (X2h kx (i:Int) z1 z2 z3 z4 (fs.map trim) (c+1)) (trim f) c v=_
  unfold X85
  have key:X2h kx (i:Int) z1 z2 z3 z4 (fs.map trim) (c+1) (v.set c (Alg.gd f i))=kx (v.take c++((f::fs).map fun f=>Alg.gd f i)++v.drop (c+(f::fs).length)) z1 z2 z3 z4:=by
   rw[Xu2 kx i z1 z2 z3 z4 fs (c+1) _ (by simp;omega) (fun j hj=>by rw[Xm9 (by omega),if_neg (by omega)];exact h0 j (by omega))]
   congr 1
   rw[List.take_succ_eq_append_getElem (by simp;omega),List.getElem_set_self,List.take_set_of_le (by omega),List.drop_set_of_lt (by omega),List.length_cons,show c+1+fs.length=c+(fs.length+1) by omega]
   simp
  by_cases hi:i<(trim f).length
  ·rw[if_pos (by omega),X1x hi,Option.bind_some,Xgc,X1x (by omega),Option.bind_some,X32 (by omega),Option.bind_some]
   exact key
  ·rw[if_neg (by omega)]
   have e0:Alg.gd f i=0:=by rw[← Xgc,Alg.Xds (by omega)]
   have ev:v.set c (Alg.gd f i)=v:=by
    rw[e0, ← h0 c (Nat.le_refl _),show Alg.gd v c=v[c]'(by omega) by simp [Alg.gd,List.getD_eq_getElem?_getD,show c<v.length by omega]]
    exact List.set_getElem_self _
   rw[ev] at key
   exact key
theorem Xu3{w:Nat}(hw:w≤64)(fs:List (List Int))(hfs:fs.length=w)(wrong:List Int){G:Nat}(hG:G≤100)(z1 z2 z4:Int):∀(f i:Nat),i≤G→G-i<f→
  X20 (w:Int) (fs.map trim) wrong f ((List.range i).map fun t=>fs.map fun f=>Alg.gd f t) (i:Int) z1 z2 (G:Int) z4=some ((List.range G).map fun t=>fs.map fun f=>Alg.gd f t,wrong,0)
 |0,i,_,h=>by omega
 |f+1,i,h1,h2=>by
  rw[X20]
  unfold Xao
  by_cases hi:i<G
  ·rw[if_pos (by omega),lmk_ok _ (by omega),Option.bind_some,Xu2 _ i z1 z2 (G:Int) z4 fs 0 (List.replicate w 0) (by simp;omega) (fun j _=>Xcf w j)]
   unfold X4p
   have e:(List.replicate w (0:Int)).take 0++(fs.map fun f=>Alg.gd f i)++(List.replicate w 0).drop (0+fs.length)=fs.map fun f=>Alg.gd f i:=by
    rw[List.take_zero,List.nil_append,List.drop_of_length_le (by simp;omega),List.append_nil]
   rw[e,Xe (by simp;omega),Option.bind_some,w64_id (by omega) (by omega),show(i:Int)+1=((i+1:Nat):Int) by omega]
   have:=Xu3 hw fs hfs wrong hG z1 z2 z4 f (i+1) (by omega) (by omega)
   rw[List.range_succ,List.map_append] at this
   exact this
  ·rw[if_neg (by omega),show i=G by omega]
theorem Xpj{p:Int}(hf:Fp p){s D G:Nat}(hs:StOK p s D G){w:Nat}(hw:w≤64){L:List Ans}(h:AnsOK p w L)(hL:L.length=s)(hn:nk L=s){F:Nat→List Int}(hF:∀j,j<w→Fit p (2*G+D-1) L j (F j)):
  ∃wrong,Xbw p ((s:Int),(D:Int),(G:Int)) (w:Int) L=some ((List.range G).map fun t=>(List.range w).map fun j=>Alg.gd (F j) t,wrong,0):=by
 have hs':=hs
 obtain⟨p1,p2,p3,p4,p5,p6⟩:=hs'
 unfold Xbw
 rw[cdcheck hf hs,Option.bind_some,if_neg (by decide)]
 dsimp only
 obtain⟨wrong,hw2⟩:=Xis hf hw h (by omega) (by omega) (k:=2*G+D-1) (by omega) (by omega) hF
 rw[hL] at hw2
 rw[w64_id (x:=2*(G:Int)) (by omega) (by omega),w64_id (x:=2*(G:Int)+D) (by omega) (by omega),w64_id (by omega) (by omega),show 2*(G:Int)+D-1=((2*G+D-1:Nat):Int) by omega,hw2,Option.bind_some,if_neg (by simp)]
 have:=Xu3 hw ((List.range w).map F) (by simp) wrong (G:=G) (by omega) (s:Int) (D:Int) p big 0 (by omega) (by simp only [big];omega)
 rw[List.map_map] at this
 refine⟨wrong,?_⟩
 have e:∀t,((List.range w).map F).map (fun f=>Alg.gd f t)=(List.range w).map fun j=>Alg.gd (F j) t:=fun t=>by rw[List.map_map];rfl
 simp only [e] at this
 exact this
theorem Xu4{p:Int}(hp:2≤p∧p≤65521)(rec:(List Int)→Int→Option FR2){t r:List Int}(ht:El p t)(hr:El p r)(hl:r.length=t.length)(hn:t.length≤1000):∀(xs:List Int)(i:Nat),r.drop i=xs→i≤t.length→X38 rec p xs i (mixl (at_ p 1 t r) t i)=rec (at_ p 1 t r) p
 | [],i,hd,hi=>by
  have h1:=List.drop_eq_nil_iff.1 hd
  rw[X38,show i=t.length by omega,Xf9 (Xeh hl.symm)]
 |x::xs,i,hd,hi=>by
  have hlt:i<r.length:=by
   rcases Nat.lt_or_ge i r.length with h |h
   ·exact h
   ·rw[List.drop_eq_nil_of_le h] at hd;cases hd
  have hx:x=Alg.gd r i:=by
   rw[List.drop_eq_getElem_cons hlt] at hd
   rw[← (List.cons.inj hd).1];simp [Alg.gd,List.getD_eq_getElem?_getD,hlt]
  show X7u rec p (X38 rec p xs (i+1)) x i _=_
  unfold X7u
  have hal:=Xeh (p:=p) (x:=1) hl.symm
  have hml:=Xf7 hal i
  have e:(Alg.gd t i+x)%p=Alg.gd (at_ p 1 t r) i:=by
   have h1:Alg.gd (at_ p 1 t r) i=(Alg.gd t i+1*Alg.gd r i%p)%p:=by
    simp [Alg.gd,at_,List.getD_eq_getElem?_getD,List.getElem?_zipWith,hlt,show i<t.length by omega]
   have:=El.gd hp.1 hr i
   rw[h1,hx,Int.one_mul,Int.emod_eq_of_lt this.1 this.2]
  have hxe:E1 p x:=by rw[hx];exact El.gd hp.1 hr i
  rw[X1x (by omega),Option.bind_some,nzp hp,Option.bind_some,Option.bind_some,Xgd hal (by omega),accs hp (El.gd hp.1 ht i) hxe,e,X32 (by omega),Option.bind_some,Xf8 hal (by omega)]
  exact Xu4 hp rec ht hr hl hn xs (i+1) (by rw[← List.drop_drop,hd];rfl) (by omega)
theorem Xu5{p:Int}(hf:Fp p){w:Nat}(hw:w≤64)(kx:(List Int)→Int→Option FR2):∀(R:List (List Int))(t:List Int),Rw p w R→t.length=w→El p t→X1k kx (w:Int) (R.map fun r=>(true,r)) t p=kx (sumr p R t) p
 | [],t,_,_,_=>rfl
 |r::R,t,h,hl,he=>by
  have hp:=hf.rng
  obtain⟨⟨a,b⟩,h⟩:=Rw.cons.1 h
  show X7v kx (w:Int) (X1k kx (w:Int) (R.map fun r=>(true,r))) (true,r) t p=_
  unfold X7v
  rw[if_neg (by simp),if_neg (by dsimp only;omega),Xi9 hf b,Option.bind_some,if_neg (by decide)]
  have:=Xu4 hp (X1k kx (w:Int) (R.map fun r=>(true,r))) he b (by omega) (by omega) r 0 rfl (by omega)
  rw[Xiq] at this
  rw[this,Xu5 hf hw kx R _ h (by rw[Xeh (by omega)];exact hl) (Xnq hp.1 _ _)]
  rfl
theorem Xpk{p:Int}(hf:Fp p){w:Nat}(hw:w≤64){R:List (List Int)}(h:Rw p w R)(hl:2≤R.length∧R.length≤10):Xbp p (w:Int) (R.map fun r=>(true,r))=some ((sumr p R (List.replicate w 0),[]),0):=by
 unfold Xbp
 rw[hf.ck,Option.bind_some,if_neg (by decide),List.length_map,if_neg (by omega),lmk_ok _ (by omega),Option.bind_some,Xu5 hf hw _ R _ h (by simp) (X9h hf.rng.1 w)]
 rfl
theorem Xuz{b:Bool}{q:Int×Int}{l:List (Int×Int)}{n m:Nat}(h:l.length≤n)(h2:b=true→n+1≤m)(h3:n≤m):(if b=true then q::l else l).length≤m:=by
 cases b with
 |true=>have:=h2 rfl;rw[if_pos rfl,List.length_cons];omega
 |false=>rw[if_neg (by decide)];omega
theorem Xs4{p:Int}{k:Nat}{L:List Ans}{j:Nat}{f:List Int}(i0:Nat)(hk:k+2≤nk L)(h1:El p f)(h2:f.length≤k)(h:∀i (hi:i<L.length),i≠i0→L[i].1=true→Cg p (Alg.pv f ((i:Int)+1)) (Alg.gd L[i].2 j)):Fit p k L j f:=by
 have key:∀(M:List Ans)(i:Nat),L.drop i=M→((kn (col M j) i).filter (Alg.bad p f)).length≤if i≤i0 then 1 else 0:=fun M=>by
  induction M with
  |nil=>intro i _;simp [col,kn]
  |cons a M ih=>
   intro i hd
   have hi:i<L.length:=by
    rcases Nat.lt_or_ge i L.length with h2 |h2
    ·exact h2
    ·rw[List.drop_of_length_le h2] at hd;cases hd
   have ha:L[i]=a:=by
    have:=List.drop_eq_getElem_cons hi
    rw[hd] at this;exact(List.cons.inj this).1.symm
   have ih:=ih (i+1) (by rw[← List.drop_drop,hd];rfl)
   unfold col at ih ⊢
   rw[List.map_cons,kn]
   have hle:(if i+1≤i0 then 1 else 0)≤(if i≤i0 then 1 else 0:Nat):=by split<;>split<;>omega
   by_cases hk:a.1=true
   ·rw[if_pos hk,List.filter_cons]
    refine Xuz ih (fun hb=>?_) hle
    have hne:i=i0:=Classical.not_not.1 fun hne=>by
     have:=h i hi hne (by rw[ha];exact hk)
     rw[ha] at this
     have h5:=Alg.Xjr hb
     simp only [hk,if_true] at h5
     exact absurd this h5
    rw[if_neg (show ¬(i+1≤i0) by omega),if_pos (show i≤i0 by omega)]
    exact Nat.le_refl _
   ·rw[if_neg hk]
    exact Nat.le_trans ih hle
 have hkey:=key L 0 rfl
 refine⟨h1,h2,?_⟩
 split at hkey<;>omega
end Go.Proofs.YtmfppphlhgneeaaGreat.Hh
end

section
namespace Go.Proofs.YtmfppphlhgneeaaGreat.Hh
set_option linter.unusedVariables false
open Alg (Cg Pr)
theorem Xu6(z f:Int)(F:Nat→List Int→Int→Option IR)(hF:∀n v i,F (n+1) v i=if i<z then(lapp v [f]).bind fun u=>F n u (w64 (i+1)) else some (v,0))(hz:z≤100000):∀(m fuel:Nat)(v:List Int)(i:Int),0≤i→i+m=z→m<fuel→(v.length:Int)=i→F fuel v i=some (v++List.replicate m f,0)
 |m,0,_,_,_,_,h,_=>by omega
 |0,fuel+1,v,i,h0,h1,h2,h3=>by
  rw[hF,if_neg (by omega)]
  simp
 |m+1,fuel+1,v,i,h0,h1,h2,h3=>by
  rw[hF,if_pos (by omega),Xe (by simp;omega),Option.bind_some,w64_id (by omega) (by omega),Xu6 z f F hF hz m fuel (v++[f]) (i+1) (by omega) (by omega) (by omega) (by simp;omega),List.replicate_succ]
  simp
theorem fils{m:Nat}(hm:m≤100000)(f:Int)(F:Nat→List Int→Int→Option IR)(hF:∀n v i,F (n+1) v i=if i<(m:Int) then(lapp v [f]).bind fun u=>F n u (w64 (i+1)) else some (v,0)):F big [] 0=some (List.replicate m f,0):=by
 have:=Xu6 (m:Int) f F hF (by omega) m big [] 0 (by omega) (by omega) (by simp only [big];omega) rfl
 rwa [List.nil_append] at this
theorem prlimits{p:Int}(hf:Fp p){n s:Nat}(hn:1≤n∧n≤1024)(hs:2≤s∧s≤10):X9s p (n:Int) (s:Int)=some (List.replicate (n*(s-1)) p,0):=by
 have h1:n*(s-1)≤1024*9:=Nat.mul_le_mul hn.2 (by omega)
 unfold X9s
 rw[hf.ck,Option.bind_some,if_neg (by decide),if_neg (by omega),w64_id (x:=(s:Int)-1) (by omega) (by omega),show(n:Int)*((s:Int)-1)=((n*(s-1):Nat):Int) by rw[show(s:Int)-1=((s-1:Nat):Int) by omega];simp,w64_id (by omega) (by omega)]
 exact fils (by omega) p (X7o _ p) (fun _ _ _=>rfl)
theorem cvlimits{p:Int}(hf:Fp p){s d:Nat}(h:PlanOK p s d){n:Nat}(hn:1≤n∧n≤1024):X9t p ((s:Int),(d:Int)) (n:Int)=some (List.replicate (n*d) p,0):=by
 have h1:n*d≤1024*9:=Nat.mul_le_mul hn.2 (by have:=h.2.2.2.1;have:=h.2.1;omega)
 unfold X9t
 rw[cvcheck hf h,Option.bind_some,if_neg (by decide),if_neg (by omega)]
 dsimp only
 rw[show(n:Int)*(d:Int)=((n*d:Nat):Int) by simp,w64_id (by omega) (by omega)]
 exact fils (by omega) p (X7p _ p) (fun _ _ _=>rfl)
theorem cdlimits{p:Int}(hf:Fp p){s D G:Nat}(h:StOK p s D G){m:Nat}(hm:1≤m∧m≤1024):X9v p ((s:Int),(D:Int),(G:Int)) (m:Int)=some (List.replicate (m*D) p,0):=by
 have h1:m*D≤1024*10:=Nat.mul_le_mul hm.2 (by have:=h.2.2.2.2.2;have:=h.2.1;have:=h.2.2.2.2.1;omega)
 unfold X9v
 rw[cdcheck hf h,Option.bind_some,if_neg (by decide),if_neg (by omega)]
 dsimp only
 rw[show(m:Int)*(D:Int)=((m*D:Nat):Int) by simp,w64_id (by omega) (by omega)]
 exact fils (by omega) p (X7q _ p) (fun _ _ _=>rfl)
abbrev Tp:=(List Int)×Int
theorem Xob{p:Int}{T:List Int}(hT:El p T)(hl:T.length≤16384){a c:Nat}(hac:a+c≤T.length)(kx:(List Int)→Int→Int→Option (Tp×(List Int)×Int)):∀(m f i:Nat),i+m=c→m<f→X5d kx p (c:Int) T f ((T.drop a).take i) (i:Int) ((a+i:Nat):Int)=kx ((T.drop a).take c) 0 ((a+c:Nat):Int)
 |m,0,i,_,h=>by omega
 |0,f+1,i,h,_=>by
  rw[X5d]
  unfold X8u
  rw[if_neg (by omega),show i=c by omega]
 |m+1,f+1,i,h,hf=>by
  rw[X5d]
  unfold X8u
  have hx:=hT _ (Alg.Xnm (l:=T) (i:=a+i) (by omega))
  rw[if_pos (by omega),if_neg (by omega),X1x (by omega),Option.bind_some,if_neg (by have:=hx.1;have:=hx.2;omega),Xe (by simp;omega),Option.bind_some,w64_id (by omega) (by omega),w64_id (by omega) (by omega)]
  have e:(T.drop a).take i++[Alg.gd T (a+i)]=(T.drop a).take (i+1):=by
   rw[List.take_succ_eq_append_getElem (by simp;omega),List.getElem_drop,show Alg.gd T (a+i)=T[a+i]'(by omega) by simp [Alg.gd,List.getD_eq_getElem?_getD,show a+i<T.length by omega]]
  rw[e,show(i:Int)+1=((i+1:Nat):Int) by omega,show((a+i:Nat):Int)+1=((a+(i+1):Nat):Int) by omega]
  exact Xob hT hl hac kx m f (i+1) (by omega) (by omega)
theorem Xjy{p:Int}(hp:2≤p∧p≤65521){T:List Int}(hT:El p T)(hl:T.length≤16384){a c:Nat}(hac:a+c≤T.length):X9l (T,(a:Int)) p (c:Int)=some ((T,((a+c:Nat):Int)),(T.drop a).take c,0):=by
 unfold X9l Xe2 Xf3
 dsimp only
 rw[Option.bind_some,decide_eq_true (by omega),if_neg (by decide),if_neg (by omega),Xe (by simp;omega),Option.bind_some,List.nil_append,Option.bind_some]
 have:=Xob hT hl hac (X5c T) c big 0 (by omega) (by simp only [big];omega)
 exact this
theorem El.sub{p:Int}{T:List Int}(hT:El p T)(a c:Nat):El p ((T.drop a).take c):=fun x hx=>hT x (List.mem_of_mem_drop (List.mem_of_mem_take hx))
def sb_(p:Int)(t l:List Int):List Int:=List.zipWith (fun a b=>(a+p-b)%p) t l
theorem Xmb{p:Int}{t l:List Int}(h:t.length=l.length):(sb_ p t l).length=t.length:=by simp [sb_,h]
theorem Xv0{p:Int}(hp:2≤p)(t l:List Int):El p (sb_ p t l):=fun z hz=>by
 unfold sb_ at hz
 obtain⟨i,hi,rfl⟩:=List.getElem_of_mem hz
 rw[List.getElem_zipWith]
 exact E1.emod hp _
theorem Xu7{p:Int}{t l:List Int}(h:t.length=l.length){i:Nat}(hi:i<t.length):Alg.gd (sb_ p t l) i=(Alg.gd t i+p-Alg.gd l i)%p:=by
 have hi2:i<l.length:=by omega
 simp [Alg.gd,sb_,List.getD_eq_getElem?_getD,List.getElem?_zipWith,hi,hi2]
theorem Xv1{p:Int}{t l:List Int}(h:t.length=l.length)(i:Nat):Cg p (Alg.gd (sb_ p t l) i) (Alg.gd t i-Alg.gd l i):=by
 rcases Nat.lt_or_ge i t.length with hi |hi
 ·rw[Xu7 h hi]
  exact(Cg.emod p _).trans ⟨1,by omega⟩
 ·rw[Alg.Xds (l:=sb_ p t l) (by rw[Xmb h];exact hi),Alg.Xds hi,Alg.Xds (by omega:l.length≤i)]
  exact Cg.of (by simp)
abbrev QR:=(List (List Int))×Tp×Int
theorem Xu8{p:Int}(hp:2≤p∧p≤65521)(kx:(List Int)→Int→Int→Int→Option QR)(z1 z2:Int){t r:List Int}(ht:El p t)(hr:El p r)(hl:r.length=t.length)(hn:t.length≤10000):∀(xs:List Int)(i:Nat),r.drop i=xs→i≤t.length→X2p kx z1 z2 p xs i (mixl (sb_ p t r) t i)=kx (sb_ p t r) z1 z2 p
 | [],i,hd,hi=>by
  have h1:=List.drop_eq_nil_iff.1 hd
  rw[X2p,show i=t.length by omega,Xf9 (Xmb hl.symm)]
 |x::xs,i,hd,hi=>by
  have hlt:i<r.length:=by
   rcases Nat.lt_or_ge i r.length with h |h
   ·exact h
   ·rw[List.drop_eq_nil_of_le h] at hd;cases hd
  have hx:x=Alg.gd r i:=by
   rw[List.drop_eq_getElem_cons hlt] at hd
   rw[← (List.cons.inj hd).1];simp [Alg.gd,List.getD_eq_getElem?_getD,hlt]
  show X6q kx z1 z2 p (X2p kx z1 z2 p xs (i+1)) x i _=_
  unfold X6q
  have hal:=Xmb (p:=p) hl.symm
  have hml:=Xf7 hal i
  have h1:=El.gd hp.1 ht i
  have h2:=El.gd hp.1 hr i
  have e:Int.tmod (w64 ((w64 (Alg.gd t i+p))-x)) p=Alg.gd (sb_ p t r) i:=by
   rw[hx]
   have:=h1.1;have:=h1.2;have:=h2.1;have:=h2.2
   rw[w64_id (x:=Alg.gd t i+p) (by omega) (by omega),w64_id (by omega) (by omega),md hp (by omega),Xu7 hl.symm (by omega)]
  rw[X1x (by omega),Option.bind_some,nzp hp,Option.bind_some,Option.bind_some,Xgd hal (by omega),e,X32 (by omega),Option.bind_some,Xf8 hal (by omega)]
  exact Xu8 hp kx z1 z2 ht hr hl hn xs (i+1) (by rw[← List.drop_drop,hd];rfl) (by omega)
theorem Xoc{R:List (List Int)}{r:List Int}{k:Nat}:gr (R++[r]) k=if k<R.length then gr R k else if k=R.length then r else []:=by
 unfold gr
 rw[List.getD_eq_getElem?_getD,List.getD_eq_getElem?_getD]
 by_cases h:k<R.length
 ·rw[if_pos h,List.getElem?_append_left h]
 ·rw[if_neg h,List.getElem?_append_right (by omega)]
  by_cases h2:k=R.length
  ·rw[if_pos h2,h2,Nat.sub_self];rfl
  ·rw[if_neg h2,List.getElem?_eq_none (by simp;omega)];rfl
theorem Xqd{R:List (List Int)}{r:List Int}(i:Nat):Alg.sm (R.length+1) (fun k=>Alg.gd (gr (R++[r]) k) i)=Alg.sm R.length (fun k=>Alg.gd (gr R k) i)+Alg.gd r i:=by
 rw[Alg.sm]
 have e1:Alg.sm R.length (fun k=>Alg.gd (gr (R++[r]) k) i)=Alg.sm R.length (fun k=>Alg.gd (gr R k) i):=Alg.Xhd fun k hk=>by rw[Xoc,if_pos hk]
 rw[e1,Xoc,if_neg (by omega),if_pos rfl]
theorem Xu9{p:Int}(hp:2≤p∧p≤65521)(kx:(List Int)→(List (List Int))→Int→Int→Int→Option QR){n s idx:Nat}(hn:n≤1024)(hs:2≤s∧s≤10){D:List Int}(hD:El p D)(hDl:D.length=n*(s-1))(z1 z2:Int):∀(m f j:Nat)(out:List (List Int))(last:List Int),j+m=s-1→m<f→out.length=j→Rw p n out→last.length=n→El p last→(∀i,Cg p (Alg.gd last i) ((if i=idx then 1 else 0)-Alg.sm j (fun k=>Alg.gd (gr out k) i)))→
  ∃out' last',X11 kx (n:Int) (s:Int) D f out (j:Int) last z1 z2 p=kx last' out' z1 z2 p∧out'.length=s-1∧Rw p n out'∧last'.length=n∧El p last'∧∀i,Cg p (Alg.gd last' i) ((if i=idx then 1 else 0)-Alg.sm (s-1) (fun k=>Alg.gd (gr out' k) i))
 |m,0,j,_,_,_,h,_,_,_,_,_=>by omega
 |0,f+1,j,out,last,h,_,ho,hR,hl,he,hc=>by
  rw[X11]
  unfold X6r
  rw[w64_id (x:=(s:Int)-1) (by omega) (by omega),if_neg (by omega)]
  exact⟨out,last,rfl,by omega,hR,hl,he,by rw[show s-1=j by omega];exact hc⟩
 |m+1,f+1,j,out,last,h,hf,ho,hR,hl,he,hc=>by
  rw[X11]
  unfold X6r
  have h1:j*n≤9*1024:=Nat.mul_le_mul (by omega) hn
  have h2:(j+1)*n=j*n+n:=by rw[Nat.add_mul,Nat.one_mul]
  have h3:(j+1)*n≤D.length:=by rw[hDl,Nat.mul_comm n];exact Nat.mul_le_mul_right _ (by omega)
  rw[w64_id (x:=(s:Int)-1) (by omega) (by omega),if_pos (by omega),w64_id (x:=(j:Int)+1) (by omega) (by omega),show(j:Int)*(n:Int)=((j*n:Nat):Int) by simp,show((j:Int)+1)*(n:Int)=(((j+1)*n:Nat):Int) by simp,w64_id (x:=((j*n:Nat):Int)) (by omega) (by omega),w64_id (x:=(((j+1)*n:Nat):Int)) (by omega) (by omega),Xas (by omega) (by omega) (by omega),Option.bind_some]
  have eq:((D.drop ((j*n:Nat):Int).toNat).take ((((j+1)*n:Nat):Int)-((j*n:Nat):Int)).toNat)=(D.drop (j*n)).take n:=by
   rw[Int.toNat_natCast,show((((j+1)*n:Nat):Int)-((j*n:Nat):Int)).toNat=n by omega]
  rw[eq]
  generalize hq:(D.drop (j*n)).take n=q
  have ql:q.length=n:=by rw[← hq,List.length_take,List.length_drop];omega
  have qe:El p q:=by rw[← hq];exact hD.sub _ _
  rw[Xe (by simp;omega),Option.bind_some,List.nil_append]
  have l3:=Xu8 hp (X2o (X11 kx (n:Int) (s:Int) D f) (j:Int) q out) z1 z2 he qe (by omega) (by omega) q 0 rfl (by omega)
  rw[Xiq] at l3
  rw[l3]
  unfold X2o
  rw[Xe (by simp;omega),Option.bind_some,w64_id (by omega) (by omega),show(j:Int)+1=((j+1:Nat):Int) by omega]
  refine Xu9 hp kx hn hs hD hDl z1 z2 m f (j+1) (out++[q]) (sb_ p last q) (by omega) (by omega) (by simp [ho]) (fun r hr=>?_) (by rw[Xmb (by omega)];exact hl) (Xv0 hp.1 _ _) (fun i=>?_)
  ·rcases List.mem_append.1 hr with h |h
   ·exact hR r h
   ·rw[List.mem_singleton.1 h];exact⟨ql,qe⟩
  ·have:=Xqd (R:=out) (r:=q) i
   rw[ho] at this
   rw[this]
   exact(Xv1 (by omega) i).trans (((hc i).sub (Cg.refl p _)).trans (Cg.of (by omega)))
theorem prqueries{p:Int}(hf:Fp p){n s idx:Nat}(hn:1≤n∧n≤1024)(hs:2≤s∧s≤10)(hi:idx<n){T:List Int}(hT:El p T)(hl:T.length≤16384){a:Nat}(hac:a+n*(s-1)≤T.length):
  ∃qs,Xaa p (n:Int) (s:Int) (idx:Int) (T,(a:Int))=some (qs,(T,((a+n*(s-1):Nat):Int)),0)∧Qs p n s idx qs:=by
 have hp:=hf.rng
 have h1:n*(s-1)≤1024*9:=Nat.mul_le_mul hn.2 (by omega)
 unfold Xaa
 rw[prlimits hf hn hs,Option.bind_some,if_neg (by simp),if_neg (by omega),w64_id (x:=(s:Int)-1) (by omega) (by omega),show(n:Int)*((s:Int)-1)=((n*(s-1):Nat):Int) by rw[show(s:Int)-1=((s-1:Nat):Int) by omega];simp,w64_id (by omega) (by omega),Xjy hp hT hl hac,Option.bind_some,if_neg (by simp),lmk_ok _ (by omega),Option.bind_some,X1x (by simpa using hi),Option.bind_some,X32 (by simpa using hi),Option.bind_some]
 dsimp only
 have hul:((List.replicate n (0:Int)).set idx 1).length=n:=by simp
 have hue:El p ((List.replicate n (0:Int)).set idx 1):=fun x hx=>by
  rcases List.mem_or_eq_of_mem_set hx with h |rfl
  ·exact X9h hp.1 n x h
  ·exact Xhi hp.1
 obtain⟨out,last,e1,e2,e3,e4,e5,e6⟩:=Xu9 hp (X10 T) (n:=n) (s:=s) (idx:=idx) (by omega) hs (hT.sub a (n*(s-1))) (by rw[List.length_take,List.length_drop];omega) 0 ((a+n*(s-1):Nat):Int) (s-1) big 0 [] ((List.replicate n 0).set idx 1) (by omega) (by simp only [big];omega) rfl (fun r hr=>by cases hr) hul hue (fun i=>by rw[Xrn hi];exact Cg.of (by simp [Alg.sm]))
 rw[show((0:Nat):Int)=0 from rfl] at e1
 rw[e1]
 unfold X10
 rw[Xe (by simp;omega),Option.bind_some]
 refine⟨_,rfl,by simp;omega,fun r hr=>?_,fun i=>?_⟩
 ·rcases List.mem_append.1 hr with h |h
  ·exact e3 r h
  ·rw[List.mem_singleton.1 h];exact⟨e4,e5⟩
 ·have:=Xqd (R:=out) (r:=last) i
  rw[e2,show s-1+1=s by omega] at this
  rw[this]
  exact((Cg.refl p _).add (e6 i)).trans (Cg.of (by omega))
def Shv(p:Int)(c:List Int)(s:Nat)(out:List (Int×Int)):Prop:=out.length=s∧∀i,i<s→∃x v,out[i]?=some (x,v)∧E1 p v∧Cg p v (Alg.pv c ((i:Int)+1))
theorem Xmc{p:Int}(hf:Fp p)(kx:(List (Int×Int))→Int→Int→Int→Option ((List (Int×Int))×Tp×Int)){c:List Int}(hc:El p c)(hcl:c.length≤500){s:Nat}(hs:(s:Int)<p)(z:Int):∀(m f i:Nat)(out:List (Int×Int)),i+m=s→m<f→Shv p c i out→∃out',X5j kx (s:Int) c z p f out ((i:Int)+1)=kx out' 0 z p∧Shv p c s out'
 |m,0,i,_,_,h,_=>by omega
 |0,f+1,i,out,h,_,hS=>by
  rw[X5j]
  unfold X8y
  rw[if_neg (by omega)]
  exact⟨out,rfl,by rw[show s=i by omega];exact hS⟩
 |m+1,f+1,i,out,h,hfu,hS=>by
  rw[X5j]
  unfold X8y
  have h2:=hf.hi
  obtain⟨v,v1,v2,v3⟩:=Xm7 hf hc (by omega) (x:=(i:Int)+1) ⟨by omega,by omega⟩
  have hol:=hS.1
  rw[if_pos (by omega),v1,Option.bind_some,Xe (by simp;omega),Option.bind_some,w64_id (by omega) (by omega),show(i:Int)+1+1=((i+1:Nat):Int)+1 by omega]
  refine Xmc hf kx hc hcl hs z m f (i+1) _ (by omega) (by omega) ⟨by simp [hol],fun k hk=>?_⟩
  by_cases hki:k<i
  ·rw[List.getElem?_append_left (by omega)]
   exact hS.2 k hki
  ·have:k=i:=by omega
   subst this
   rw[List.getElem?_append_right (by omega),hol,Nat.sub_self]
   exact⟨_,v,rfl,v2,v3⟩
theorem Xpl{p:Int}(hf:Fp p){sec:Int}(hsec:E1 p sec){d s:Nat}(hd:d≤9)(hs:1≤s∧s≤500)(hsp:(s:Int)<p){T:List Int}(hT:El p T)(hl:T.length≤16384){a:Nat}(hac:a+d≤T.length):
  ∃out,Xcv p sec (d:Int) (s:Int) (T,(a:Int))=some (out,(T,((a+d:Nat):Int)),0)∧Shv p (sec::(T.drop a).take d) s out:=by
 have hp:=hf.rng
 unfold Xcv
 rw[Xo1 hf hsec,Option.bind_some,if_neg (by decide),w64_id (x:=p-1) (by omega) (by omega),if_neg (by omega),Xjy hp hT hl hac,Option.bind_some,if_neg (by simp)]
 dsimp only
 rw[Xe (by simp;omega),Option.bind_some]
 obtain⟨out,e1,e2⟩:=Xmc hf (X5i T) (c:=sec::(T.drop a).take d) (El.cons.2 ⟨hsec,hT.sub a d⟩) (by simp;omega) (s:=s) hsp ((a+d:Nat):Int) s big 0 [] (by omega) (by simp only [big];omega) ⟨rfl,fun i hi=>by omega⟩
 rw[show((0:Nat):Int)+1=1 from rfl] at e1
 rw[show([sec]++(T.drop a).take d:List Int)=sec::(T.drop a).take d from rfl,e1]
 exact⟨out,rfl,e2⟩
theorem Xua(rec:Int→(List (List Int))→Int→(List Int)→Int→Int→Int→Int→Option QR)(z1:Int)(z2:List Int)(z3 z4 z5 z6 z7:Int){p:Int}{c:List Int}{s:Nat}{sh:List (Int×Int)}(hsh:Shv p c s sh){Q:List (List Int)}(hQ:Q.length=s){n:Nat}(hQR:Rw p n Q)(hn:n≤2000):∀(xs:List (Int×Int))(i:Nat)(A:List (List Int)),sh.drop i=xs→i≤s→A.length=s→(∀k,k<s→if k<i then ∃v,gr A k=gr Q k++[v]∧E1 p v∧Cg p v (Alg.pv c ((k:Int)+1)) else gr A k=gr Q k)→
  ∃A',X3k rec z1 z2 z3 z4 z5 z6 z7 xs i A=rec (w64 (z1+1)) A' z4 z2 z3 z5 z6 z7∧A'.length=s∧∀k,k<s→∃v,gr A' k=gr Q k++[v]∧E1 p v∧Cg p v (Alg.pv c ((k:Int)+1))
 | [],i,A,hd,hi,hA,h=>by
  have h1:=List.drop_eq_nil_iff.1 hd
  have h2:=hsh.1
  refine⟨A,rfl,hA,fun k hk=>?_⟩
  have:=h k hk
  rwa [if_pos (by omega)] at this
 |x::xs,i,A,hd,hi,hA,h=>by
  have hlt:i<sh.length:=by
   rcases Nat.lt_or_ge i sh.length with h |h
   ·exact h
   ·rw[List.drop_eq_nil_of_le h] at hd;cases hd
  have h2:=hsh.1
  obtain⟨y,v,e1,e2,e3⟩:=hsh.2 i (by omega)
  have hx:x=(y,v):=by
   rw[List.drop_eq_getElem_cons hlt] at hd
   rw[List.getElem?_eq_getElem hlt] at e1
   rw[← (List.cons.inj hd).1]
   exact Option.some.inj e1
  show ∃A',X6s rec z1 z2 z3 z4 z5 z6 z7 (X3k rec z1 z2 z3 z4 z5 z6 z7 xs (i+1)) x i A=_∧_
  unfold X6s
  have hi0:=h i (by omega)
  rw[if_neg (by omega)] at hi0
  have hql:=(hQR.gr (i:=i) (by omega)).1
  rw[X9o (by omega),Option.bind_some,hi0,Xe (by simp;omega),Option.bind_some,Option.bind_some,X32 (by omega),Option.bind_some]
  refine Xua rec z1 z2 z3 z4 z5 z6 z7 hsh hQ hQR hn xs (i+1) _ (by rw[← List.drop_drop,hd];rfl) (by omega) (by simpa using hA) (fun k hk=>?_)
  have hk0:=h k hk
  rw[Xgk (by omega)]
  by_cases hki:k=i
  ·subst hki
   rw[if_pos (by omega),if_pos rfl]
   exact⟨v,by rw[hx],e2,e3⟩
  ·rw[if_neg hki]
   by_cases hk2:k<i
   ·rw[if_pos (by omega)];rwa [if_pos hk2] at hk0
   ·rw[if_neg (by omega)];rwa [if_neg hk2] at hk0
theorem Xqe{q:List Int}{v:Int}{m i:Nat}(hq:q.length=m):Alg.gd (q++[v]) i=if i<m then Alg.gd q i else if i=m then v else 0:=by
 by_cases h:i<m
 ·rw[if_pos h,Xkw i (by omega)]
 ·rw[if_neg h]
  by_cases h2:i=m
  ·rw[if_pos h2,h2, ← hq,Xhg]
  ·rw[if_neg h2,Alg.Xds (by simp;omega)]
theorem Xqf{p:Int}{s m:Nat}{Q A:List (List Int)}(hQ:Q.length=s)(hQR:Rw p m Q)(hA:A.length=s)(h:∀k,k<s→∃v,gr A k=gr Q k++[v]∧E1 p v):Rw p (m+1) A:=fun r hr=>by
 obtain⟨k,hk,rfl⟩:=List.getElem_of_mem hr
 obtain⟨v,h1,h2⟩:=h k (by omega)
 have hq:=hQR.gr (i:=k) (by omega)
 rw[← Xfb hk,h1]
 exact⟨by simp [hq.1],hq.2.app (El.cons.2 ⟨h2,El.nil⟩)⟩
theorem Xub{p:Int}(hf:Fp p){s d n idx:Nat}(h:PlanOK p s d)(hn:n≤1024){T:List Int}(hT:El p T)(hl:T.length≤16384){a:Nat}(hac:a+n*d≤T.length):∀(m f i:Nat)(Q:List (List Int))(z:Int),i+m=n→m<f→Qc p s d idx (T.drop a) i Q→
  ∃Q' z',Xt Xs (n:Int) (idx:Int) f (i:Int) Q z T ((a+i*d:Nat):Int) (s:Int) (d:Int) p=some (Q',(T,((a+n*d:Nat):Int)),z')∧z'=0∧Qc p s d idx (T.drop a) n Q'
 |m,0,i,_,_,_,h,_=>by omega
 |0,f+1,i,Q,z,hi,_,hQ=>by
  rw[Xt]
  unfold X6t
  rw[if_neg (by omega)]
  have:i=n:=by omega
  subst this
  exact⟨Q,0,rfl,rfl,hQ⟩
 |m+1,f+1,i,Q,z,hi,hfu,hQ=>by
  have h':=h
  obtain⟨p1,p2,p3,p4,p5⟩:=h'
  have hp:=hf.rng
  have hm:(i+1)*d≤n*d:=Nat.mul_le_mul_right _ (by omega)
  have hm2:(i+1)*d=i*d+d:=by rw[Nat.add_mul,Nat.one_mul]
  have hm3:n*d≤1024*9:=Nat.mul_le_mul hn (by omega)
  rw[Xt]
  unfold X6t
  rw[if_pos (by omega)]
  have key:∀sec:Int,sec=(if i=idx then 1 else 0)→∃Q' z',(X4u (Xt Xs (n:Int) (idx:Int) f) (i:Int) z T ((a+i*d:Nat):Int) (s:Int) (d:Int) p Q) sec=some (Q',(T,((a+n*d:Nat):Int)),z')∧z'=0∧Qc p s d idx (T.drop a) n Q':=fun sec hsec=>by
   unfold X4u
   have hse:E1 p sec:=by rw[hsec];split;exact Xhi hp.1;exact Xln hp.1
   obtain⟨sh,s1,s2⟩:=Xpl hf hse (d:=d) (s:=s) (by omega) (by omega) p5 hT hl (a:=a+i*d) (by omega)
   rw[s1,Option.bind_some,if_neg (by simp)]
   dsimp only
   have hc:sec::(T.drop (a+i*d)).take d=hid d idx (T.drop a) i:=by
    unfold hid
    rw[hsec,List.drop_drop]
   rw[hc] at s2
   obtain⟨A,a1,a2,a3⟩:=Xua (Xt Xs (n:Int) (idx:Int) f) (i:Int) T ((a+i*d+d:Nat):Int) z (s:Int) (d:Int) p s2 hQ.len hQ.rw (by omega) sh 0 Q rfl (by omega) hQ.len (fun k hk=>by rw[if_neg (by omega)])
   rw[a1,w64_id (by omega) (by omega),show(i:Int)+1=((i+1:Nat):Int) by omega,show a+i*d+d=a+(i+1)*d by omega]
   refine Xub hf h hn hT hl hac m f (i+1) A z (by omega) (by omega) {len:=a2,rw:=Xqf hQ.len hQ.rw a2 (fun k hk=>by obtain⟨v,v1,v2,_⟩:=a3 k hk;exact⟨v,v1,v2⟩),val:=fun k hk j hj=>?_}
   obtain⟨v,v1,v2,v3⟩:=a3 k hk
   have hql:=(hQ.rw.gr (i:=k) (by have:=hQ.len;omega)).1
   rw[v1,Xqe hql]
   by_cases hji:j<i
   ·rw[if_pos hji];exact hQ.val k hk j hji
   ·have:j=i:=by omega
    subst this
    rw[if_neg (by omega),if_pos rfl];exact v3
  by_cases hx:(i:Int)=(idx:Int)
  ·rw[if_pos hx];exact key 1 (by rw[if_pos (by omega)])
  ·rw[if_neg hx];exact key 0 (by rw[if_neg (by omega)])
theorem cvqueries{p:Int}(hf:Fp p){s d n idx:Nat}(h:PlanOK p s d)(hn:1≤n∧n≤1024)(hi:idx<n){T:List Int}(hT:El p T)(hl:T.length≤16384){a:Nat}(hac:a+n*d≤T.length):
  ∃qs,Xab p ((s:Int),(d:Int)) (n:Int) (idx:Int) (T,(a:Int))=some (qs,(T,((a+n*d:Nat):Int)),0)∧Qc p s d idx (T.drop a) n qs:=by
 have h':=h
 obtain⟨p1,p2,p3,p4,p5⟩:=h'
 unfold Xab
 rw[cvlimits hf h hn,Option.bind_some,if_neg (by simp),if_neg (by omega)]
 dsimp only
 rw[lmk_ok _ (by omega),Option.bind_some]
 obtain⟨Q,z,e1,e2,e3⟩:=Xub hf h (n:=n) (idx:=idx) (by omega) hT hl hac n big 0 (List.replicate s []) 0 (by omega) (by simp only [big];omega) {len:=by simp,rw:=fun r hr=>by rw[(List.mem_replicate.1 hr).2];exact⟨rfl,El.nil⟩,val:=fun k hk i hi=>by omega}
 rw[Nat.zero_mul,Nat.add_zero,show((0:Nat):Int)=0 from rfl] at e1
 rw[e1]
 subst e2
 exact⟨Q,rfl,e3⟩
theorem Xqg{p:Int}(hf:Fp p)(rec:Int→(List (List Int))→Int→(List Int)→Int→Int→Int→Int→Int→Option QR){c:List Int}(hc:El p c)(hcl:c.length≤500){s:Nat}(hs:s≤10)(hsp:(s:Int)<p){Q:List (List Int)}(hQ:Q.length=s){n:Nat}(hQR:Rw p n Q)(hn:n≤2000)(z1:Int)(z2:List Int)(z3 z4 z6 z7:Int):∀(m f i:Nat)(A:List (List Int)),i+m=s→m<f→A.length=s→(∀k,k<s→if k<i then ∃v,gr A k=gr Q k++[v]∧E1 p v∧Cg p v (Alg.pv c ((k:Int)+1)) else gr A k=gr Q k)→
  ∃A',X3l rec c z1 z2 z3 z4 (s:Int) z6 z7 p f ((i:Int)+1) A=rec (w64 (z1+1)) A' z4 z2 z3 (s:Int) z6 z7 p∧A'.length=s∧∀k,k<s→∃v,gr A' k=gr Q k++[v]∧E1 p v∧Cg p v (Alg.pv c ((k:Int)+1))
 |m,0,i,_,_,h,_,_=>by omega
 |0,f+1,i,A,hi,_,hA,h=>by
  rw[X3l]
  unfold X6u
  rw[if_neg (by omega)]
  refine⟨A,rfl,hA,fun k hk=>?_⟩
  have:=h k hk
  rwa [if_pos (by omega)] at this
 |m+1,f+1,i,A,hi,hfu,hA,h=>by
  rw[X3l]
  unfold X6u
  obtain⟨v,v1,v2,v3⟩:=Xm7 hf hc (by omega) (x:=(i:Int)+1) ⟨by omega,by omega⟩
  have hi0:=h i (by omega)
  rw[if_neg (by omega)] at hi0
  have hql:=(hQR.gr (i:=i) (by omega)).1
  rw[if_pos (by omega),v1,Option.bind_some,w64_id (x:=(i:Int)+1-1) (by omega) (by omega),show(i:Int)+1-1=(i:Int) by omega,X9o (by omega),Option.bind_some,hi0,Xe (by simp;omega),Option.bind_some,Option.bind_some,X32 (by omega),Option.bind_some,w64_id (by omega) (by omega),show(i:Int)+1+1=((i+1:Nat):Int)+1 by omega]
  refine Xqg hf rec hc hcl hs hsp hQ hQR hn z1 z2 z3 z4 z6 z7 m f (i+1) _ (by omega) (by omega) (by simpa using hA) (fun k hk=>?_)
  have hk0:=h k hk
  rw[Xgk (by omega)]
  by_cases hki:k=i
  ·subst hki
   rw[if_pos (by omega),if_pos rfl]
   exact⟨v,rfl,v2,v3⟩
  ·rw[if_neg hki]
   by_cases hk2:k<i
   ·rw[if_pos (by omega)];rwa [if_pos hk2] at hk0
   ·rw[if_neg (by omega)];rwa [if_neg hk2] at hk0
theorem Xqh{p:Int}(hf:Fp p){s D G n g:Nat}(h:StOK p s D G)(hn:n≤1024){T:List Int}(hT:El p T)(hl:T.length≤16384){a:Nat}(hac:a+n*D≤T.length):∀(m f i:Nat)(Q:List (List Int))(z:Int),i+m=n→m<f→Qd p s D G i g (T.drop a) Q→
  ∃Q',Xv Xu (n:Int) (g:Int) f (i:Int) Q z T ((a+i*D:Nat):Int) (s:Int) (D:Int) (G:Int) p=some (Q',(T,((a+n*D:Nat):Int)),0)∧Qd p s D G n g (T.drop a) Q'
 |m,0,i,_,_,_,h,_=>by omega
 |0,f+1,i,Q,z,hi,_,hQ=>by
  rw[Xv]
  unfold X6v
  rw[if_neg (by omega)]
  have:i=n:=by omega
  subst this
  exact⟨Q,rfl,hQ⟩
 |m+1,f+1,i,Q,z,hi,hfu,hQ=>by
  have h':=h
  obtain⟨p1,p2,p3,p4,p5,p6⟩:=h'
  have hp:=hf.rng
  have hm:(i+1)*D≤n*D:=Nat.mul_le_mul_right _ (by omega)
  have hm2:(i+1)*D=i*D+D:=by rw[Nat.add_mul,Nat.one_mul]
  have hm3:n*D≤1024*10:=Nat.mul_le_mul hn (by omega)
  rw[Xv]
  unfold X6v
  rw[if_pos (by omega),Xjy hp hT hl (a:=a+i*D) (c:=D) (by omega),Option.bind_some,if_neg (by simp),lmk_ok _ (by omega),Option.bind_some]
  dsimp only
  rw[Xe (by simp;omega),Option.bind_some]
  have hdr:(T.drop (a+i*D)).take D=drw D (T.drop a) i:=by unfold drw;rw[List.drop_drop]
  rw[hdr]
  have hde:El p (drw D (T.drop a) i):=by rw[← hdr];exact hT.sub _ _
  have hdl:(drw D (T.drop a) i).length≤D:=by unfold drw;rw[List.length_take];omega
  have key:∀c:List Int,El p c→c.length≤500→(∀x,Alg.pv c x=x ^ G*Alg.pv (drw D (T.drop a) i) x+if i=g then 1 else 0)→∃Q',(X4v (Xv Xu (n:Int) (g:Int) f) (i:Int) T ((a+i*D+D:Nat):Int) z (s:Int) (D:Int) (G:Int) p Q) c=some (Q',(T,((a+n*D:Nat):Int)),0)∧Qd p s D G n g (T.drop a) Q':=fun c hc hcl hcv=>by
   unfold X4v
   obtain⟨A,a1,a2,a3⟩:=Xqg hf (Xv Xu (n:Int) (g:Int) f) hc hcl p2 p3 hQ.len hQ.rw (by omega) (i:Int) T ((a+i*D+D:Nat):Int) z (D:Int) (G:Int) s big 0 Q (by omega) (by simp only [big];omega) hQ.len (fun k hk=>by rw[if_neg (by omega)])
   rw[show((0:Nat):Int)+1=1 from rfl] at a1
   rw[a1,w64_id (by omega) (by omega),show(i:Int)+1=((i+1:Nat):Int) by omega,show a+i*D+D=a+(i+1)*D by omega]
   refine Xqh hf h hn hT hl hac m f (i+1) A z (by omega) (by omega) {len:=a2,rw:=Xqf hQ.len hQ.rw a2 (fun k hk=>by obtain⟨v,v1,v2,_⟩:=a3 k hk;exact⟨v,v1,v2⟩),val:=fun k hk j hj=>?_}
   obtain⟨v,v1,v2,v3⟩:=a3 k hk
   have hql:=(hQ.rw.gr (i:=k) (by have:=hQ.len;omega)).1
   rw[v1,Xqe hql]
   by_cases hji:j<i
   ·rw[if_pos hji];exact hQ.val k hk j hji
   ·have:j=i:=by omega
    subst this
    rw[if_neg (by omega),if_pos rfl, ← hcv];exact v3
  by_cases hx:(i:Int)=(g:Int)
  ·obtain⟨G',rfl⟩:∃G',G=G'+1:=⟨G-1,by omega⟩
   rw[if_pos hx,Xec 0 (by omega) (by simp;omega),Option.bind_some,X67 (by omega) (by simp;omega),Option.bind_some]
   refine key _ (fun y hy=>?_) (by simp;omega) (fun x=>?_)
   ·rcases List.mem_or_eq_of_mem_set hy with h |rfl
    ·exact((X9h hp.1 _).app hde) y h
    ·exact Xhi hp.1
   ·rw[if_pos (by omega)]
    have e:(List.replicate (G'+1) (0:Int)++drw D (T.drop a) i).set (0:Int).toNat 1=1::(List.replicate G' 0++drw D (T.drop a) i):=by rw[List.replicate_succ];rfl
    rw[e,Alg.pv,Xky,Alg.Xf5,List.length_replicate,Int.pow_succ,Int.zero_add]
    have:x ^ G'*Alg.pv (drw D (T.drop a) i) x*x=x ^ G'*x*Alg.pv (drw D (T.drop a) i) x:=by rw[Int.mul_assoc,Int.mul_comm (Alg.pv _ x) x,Int.mul_assoc]
    omega
  ·rw[if_neg hx]
   refine key _ ((X9h hp.1 _).app hde) (by simp;omega) (fun x=>?_)
   rw[if_neg (by omega),Xky,Alg.Xf5,List.length_replicate]
   omega
theorem cdqueries{p:Int}(hf:Fp p){s D G m g:Nat}(h:StOK p s D G)(hm:1≤m∧m≤1024)(hg:g<m){T:List Int}(hT:El p T)(hl:T.length≤16384){a:Nat}(hac:a+m*D≤T.length):
  ∃qs,Xac p ((s:Int),(D:Int),(G:Int)) (m:Int) (g:Int) (T,(a:Int))=some (qs,(T,((a+m*D:Nat):Int)),0)∧Qd p s D G m g (T.drop a) qs:=by
 have h':=h
 obtain⟨p1,p2,p3,p4,p5,p6⟩:=h'
 unfold Xac
 rw[cdlimits hf h hm,Option.bind_some,if_neg (by simp),if_neg (by omega)]
 dsimp only
 rw[lmk_ok _ (by omega),Option.bind_some]
 obtain⟨Q,e1,e3⟩:=Xqh hf h (n:=m) (g:=g) (by omega) hT hl hac m big 0 (List.replicate s []) 0 (by omega) (by simp only [big];omega) {len:=by simp,rw:=fun r hr=>by rw[(List.mem_replicate.1 hr).2];exact⟨rfl,El.nil⟩,val:=fun k hk i hi=>by omega}
 rw[Nat.zero_mul,Nat.add_zero,show((0:Nat):Int)=0 from rfl] at e1
 rw[e1]
 exact⟨Q,rfl,e3⟩
end Go.Proofs.YtmfppphlhgneeaaGreat.Hh
end

section
namespace Go.Proofs.YtmfppphlhgneeaaGreat
set_option linter.unusedVariables false
def DiceOK(d:List Int×Int):Prop:=0≤d.2∧d.2≤1000∧d.1.length≤300∧∀x∈d.1,0≤x∧x≤255
theorem dpick{d:List Int×Int}(hd:DiceOK d){n:Int}(hn:1≤n):∃v e,Xb d n=some (v,e)∧0≤v∧v<n∧DiceOK e:=by
 obtain⟨h1,h2,h3,h4⟩:=hd
 unfold Xb
 by_cases hl:(d.1.length:Int)≤d.2
 ·rw[if_pos hl];exact⟨0,d,rfl,by omega,by omega,h1,h2,h3,h4⟩
 ·rw[if_neg hl,w64_id (x:=d.2+1) (by omega) (by omega),show d.2+1-1=d.2 from by omega,w64_id (x:=d.2) (by omega) (by omega),Xec 0 h1 (by omega),Option.bind_some,Xkt (by omega),Option.bind_some]
  generalize hx:d.1.getD d.2.toNat 0=x
  have hm:x∈d.1:=by
   rw[← hx,List.getD_eq_getElem?_getD,List.getElem?_eq_getElem (by omega)]
   exact List.getElem_mem _
  have hxr:=h4 x hm
  rw[w64_id (x:=x) (by omega) (by omega)]
  exact⟨_,_,rfl,Int.tmod_nonneg _ (by omega),Int.tmod_lt_of_pos _ (by omega),by dsimp only;omega,by dsimp only;omega,h3,h4⟩
theorem dnew{t:List Int}(ht:∀x∈t,0≤x∧x≤255):∃d,Xfz t=some d∧DiceOK d:=by
 unfold Xfz Xcp
 by_cases hl:300<(t.length:Int)
 ·rw[if_pos hl,Xas (by omega) (by omega) (by omega),Option.bind_some]
  refine⟨_,rfl,by dsimp only;omega,by dsimp only;omega,?_,fun x hx=>ht x ?_⟩
  ·simp;omega
  ·simp only [Int.toNat_zero,List.drop_zero] at hx
   exact List.mem_of_mem_take hx
 ·rw[if_neg hl]
  exact⟨_,rfl,by dsimp only;omega,by dsimp only;omega,by dsimp only;omega,ht⟩
end Go.Proofs.YtmfppphlhgneeaaGreat
end

section
namespace Go.Proofs.YtmfppphlhgneeaaGreat.Hh
set_option linter.unusedVariables false
open Alg (Cg Pr)
theorem Xuc{p x:Int}{t l:List Int}(h:t.length=l.length){i:Nat}(hi:i<t.length):Alg.gd (at_ p x t l) i=(Alg.gd t i+x*Alg.gd l i)%p:=by
 have hi2:i<l.length:=by omega
 have e:Alg.gd (at_ p x t l) i=(Alg.gd t i+x*Alg.gd l i%p)%p:=by
  simp [Alg.gd,at_,List.getD_eq_getElem?_getD,List.getElem?_zipWith,hi,hi2]
 rw[e,Int.add_emod_emod]
theorem Xud{p:Int}(hp:2≤p∧p≤65521)(rec:(List Int)→Int→Option IR){c:List Int}(hc:El p c){i:Nat}(hi:i<c.length){t r:List Int}(ht:El p t)(hr:El p r)(hl:r.length=t.length)(hn:t.length≤1000):∀(xs:List Int)(j:Nat),r.drop j=xs→j≤t.length→X2s rec (i:Int) c p xs j (mixl (at_ p (Alg.gd c i) t r) t j)=rec (at_ p (Alg.gd c i) t r) p
 | [],j,hd,hj=>by
  have h1:=List.drop_eq_nil_iff.1 hd
  rw[X2s,show j=t.length by omega,Xf9 (Xeh hl.symm)]
 |x::xs,j,hd,hj=>by
  have hlt:j<r.length:=by
   rcases Nat.lt_or_ge j r.length with h |h
   ·exact h
   ·rw[List.drop_eq_nil_of_le h] at hd;cases hd
  have hx:x=Alg.gd r j:=by
   rw[List.drop_eq_getElem_cons hlt] at hd
   rw[← (List.cons.inj hd).1];simp [Alg.gd,List.getD_eq_getElem?_getD,hlt]
  show X6x rec (i:Int) c p (X2s rec (i:Int) c p xs (j+1)) x j _=_
  unfold X6x
  have hal:=Xeh (p:=p) (x:=Alg.gd c i) hl.symm
  have hml:=Xf7 hal j
  have hxe:E1 p x:=by rw[hx];exact El.gd hp.1 hr j
  rw[X1x hi,Option.bind_some,X1x (by omega),Option.bind_some,nzp hp,Option.bind_some,Option.bind_some,Xgd hal (by omega),accm hp (El.gd hp.1 ht j) (El.gd hp.1 hc i) hxe,hx, ← Xuc hl.symm (by omega),X32 (by omega),Option.bind_some,Xf8 hal (by omega)]
  exact Xud hp rec hc hi ht hr hl hn xs (j+1) (by rw[← List.drop_drop,hd];rfl) (by omega)
theorem Xue{p:Int}(hp:2≤p∧p≤65521){c:List Int}(hc:El p c){w:Nat}(hw:w≤1000):∀(R:List (List Int))(i:Nat)(t:List Int),i+R.length=c.length→Rw p w R→t.length=w→El p t→X19 c R i t p=some (comb p (c.drop i) R t,0)
 | [],i,t,_,_,_,_=>rfl
 |r::R,i,t,hi,hR,ht,he=>by
  obtain⟨⟨a,b⟩,hR⟩:=Rw.cons.1 hR
  simp only [List.length_cons] at hi
  show X6y c (X19 c R (i+1)) r i t p=_
  unfold X6y
  have:=Xud hp (X19 c R (i+1)) hc (i:=i) (by omega) he b (by omega) (by omega) r 0 rfl (by omega)
  rw[Xiq] at this
  rw[this,Xue hp hc hw R (i+1) _ (by omega) hR (by rw[Xeh (by omega)];exact ht) (Xnq hp.1 _ _),comb]
  have e1:Alg.gd (c.drop i) 0=Alg.gd c i:=by rw[Xlm,Nat.add_zero]
  rw[e1,List.tail_drop]
theorem Xuf{p:Int}(hf:Fp p)(kx:Int→Option IR){w:Nat}:∀R:List (List Int),Rw p w R→X3n kx p R=kx p
 | [],_=>rfl
 |r::R,h=>by
  obtain⟨⟨a,b⟩,h⟩:=Rw.cons.1 h
  show X6z kx p (X3n kx p R) r=_
  unfold X6z
  rw[Xi9 hf b,Option.bind_some,if_neg (by decide)]
  exact Xuf hf kx R h
theorem Xug(kx:Int→Option IR){p:Int}{w:Nat}(z:Int):∀R:List (List Int),Rw p w R→X3p kx (w:Int) z R=kx z
 | [],_=>rfl
 |r::R,h=>by
  obtain⟨⟨a,b⟩,h⟩:=Rw.cons.1 h
  show X70 kx (w:Int) z (X3p kx (w:Int) z R) r=_
  unfold X70
  rw[if_neg (by omega)]
  exact Xug kx z R h
theorem Xhl{p:Int}(hf:Fp p){c:List Int}(hc:El p c){w:Nat}(hw:w≤64){R:List (List Int)}(hR:Rw p w R)(hl:c.length=R.length):X9x p (w:Int) R c=some (comb p c R (List.replicate w 0),0):=by
 unfold X9x Xd6 Xc7
 rw[hf.ck,Option.bind_some,if_neg (by decide),if_neg (by omega),if_neg (by omega),Xug _ _ _ hR]
 unfold X3o
 rw[Xi9 hf hc,Option.bind_some,if_neg (by decide),Xuf hf _ _ hR]
 unfold X3m
 rw[lmk_ok _ (by omega),Option.bind_some,Xue hf.rng hc (w:=w) (by omega) R 0 _ (by omega) hR (by simp) (X9h hf.rng.1 w)]
 rfl
theorem Xcg{p:Int}(hf:Fp p){c:List Int}{w:Nat}{R:List (List Int)}(hR:Rw p w R):(comb p c R (List.replicate w 0)).length=w∧El p (comb p c R (List.replicate w 0))∧∀j,Cg p (Alg.gd (comb p c R (List.replicate w 0)) j) (Alg.sm R.length (fun i=>Alg.gd c i*Alg.gd (gr R i) j)):=by
 obtain⟨h1,h2,h3⟩:=Xnr hf.rng.1 R c (List.replicate w 0) hR (by simp) (X9h hf.rng.1 w)
 refine⟨h1,h2,fun j=>?_⟩
 have:=h3 j
 rwa [Xcf,Int.zero_add] at this
abbrev HR:=(List (List Int))×Int
theorem Xuh{p:Int}(hp:2≤p∧p≤65521)(rec:Int→(List Int)→Int→Int→Int→Int→Option HR){x:Int}(hx:E1 p x)(z1 z2 z3 z4:Int){t r:List Int}(ht:El p t)(hr:El p r)(hl:r.length=t.length)(hn:t.length≤1000):∀(xs:List Int)(j:Nat),r.drop j=xs→j≤t.length→X4z rec z1 x z2 z3 z4 p xs j (mixl (at_ p x t r) t j)=rec (w64 (z1+1)) (at_ p x t r) z2 z3 z4 p
 | [],j,hd,hj=>by
  have h1:=List.drop_eq_nil_iff.1 hd
  rw[X4z,show j=t.length by omega,Xf9 (Xeh hl.symm)]
 |y::xs,j,hd,hj=>by
  have hlt:j<r.length:=by
   rcases Nat.lt_or_ge j r.length with h |h
   ·exact h
   ·rw[List.drop_eq_nil_of_le h] at hd;cases hd
  have hy:y=Alg.gd r j:=by
   rw[List.drop_eq_getElem_cons hlt] at hd
   rw[← (List.cons.inj hd).1];simp [Alg.gd,List.getD_eq_getElem?_getD,hlt]
  show Xag rec z1 x z2 z3 z4 p (X4z rec z1 x z2 z3 z4 p xs (j+1)) y j _=_
  unfold Xag
  have hal:=Xeh (p:=p) (x:=x) hl.symm
  have hml:=Xf7 hal j
  have hye:E1 p y:=by rw[hy];exact El.gd hp.1 hr j
  rw[X1x (by omega),Option.bind_some,nzp hp,Option.bind_some,Option.bind_some,Xgd hal (by omega),accm hp (El.gd hp.1 ht j) hx hye,hy, ← Xuc hl.symm (by omega),X32 (by omega),Option.bind_some,Xf8 hal (by omega)]
  exact Xuh hp rec hx z1 z2 z3 z4 ht hr hl hn xs (j+1) (by rw[← List.drop_drop,hd];rfl) (by omega)
theorem Xui{p:Int}(hp:2≤p∧p≤65521){w:Nat}(hw:w≤64){x:Int}(hx:E1 p x){R:List (List Int)}(hR:Rw p w R)(hn:R.length≤1024){G g:Nat}(hG:G≤100)(hg:g*G≤100000)(kx:(List Int)→Int→Int→Int→Int→Option HR)(z1 z2:Int):∀(xs:List (List Int))(f i:Nat)(v:List Int),(grp R G g).drop i=xs→i≤(grp R G g).length→xs.length<f→v.length=w→El p v→
  ∃v',X2f kx (g:Int) R x f (i:Int) v z1 z2 (G:Int) p=kx v' z1 z2 (G:Int) p∧v'.length=w∧El p v'∧∀j,Cg p (Alg.gd v' j) (Alg.gd v j+x ^ i*Alg.pv (xs.map fun r=>Alg.gd r j) x)
 |xs,0,i,v,_,_,h,_,_=>by omega
 | [],f+1,i,v,hd,hi,hf,h1,h2=>by
  have h3:=List.drop_eq_nil_iff.1 hd
  have h4:(grp R G g).length=min G (R.length-g*G):=by unfold grp;rw[List.length_take,List.length_drop]
  rw[X2f]
  unfold Xah
  rw[show(g:Int)*(G:Int)=((g*G:Nat):Int) by simp,w64_id (x:=((g*G:Nat):Int)) (by omega) (by omega),w64_id (x:=((g*G:Nat):Int)+(i:Int)) (by omega) (by omega),if_neg (by omega)]
  exact⟨v,rfl,h1,h2,fun j=>Cg.of (by simp [Alg.pv])⟩
 |r::xs,f+1,i,v,hd,hi,hf,h1,h2=>by
  have h4:(grp R G g).length=min G (R.length-g*G):=by unfold grp;rw[List.length_take,List.length_drop]
  have hlt:i<(grp R G g).length:=by
   rcases Nat.lt_or_ge i (grp R G g).length with h |h
   ·exact h
   ·rw[List.drop_eq_nil_of_le h] at hd;cases hd
  have hr:gr R (g*G+i)=r:=by
   rw[List.drop_eq_getElem_cons hlt] at hd
   rw[← (List.cons.inj hd).1,Xfb (by omega)]
   simp [grp]
  have hrr:=hR.gr (i:=g*G+i) (by omega)
  rw[hr] at hrr
  rw[X2f]
  unfold Xah
  obtain⟨c,c1,c2,c3⟩:=Xl1 hp hx (n:=i) (by omega)
  rw[show(g:Int)*(G:Int)=((g*G:Nat):Int) by simp,w64_id (x:=((g*G:Nat):Int)) (by omega) (by omega),w64_id (x:=((g*G:Nat):Int)+(i:Int)) (by omega) (by omega),if_pos (by omega),c1,Option.bind_some,show((g*G:Nat):Int)+(i:Int)=((g*G+i:Nat):Int) by omega,X9o (by omega),Option.bind_some,hr]
  have l2:=Xuh hp (X2f kx (g:Int) R x f) c2 (i:Int) z1 z2 (G:Int) h2 hrr.2 (by omega) (by omega) r 0 rfl (by omega)
  rw[Xiq] at l2
  rw[l2,w64_id (by omega) (by omega),show(i:Int)+1=((i+1:Nat):Int) by omega]
  obtain⟨v',e1,e2,e3,e4⟩:=Xui hp hw hx hR hn hG hg kx z1 z2 xs f (i+1) (at_ p c v r) (by rw[← List.drop_drop,hd];rfl) (by omega) (by simp at hf;omega) (by rw[Xeh (by omega)];exact h1) (Xnq hp.1 _ _)
  refine⟨v',e1,e2,e3,fun j=>(e4 j).trans ?_⟩
  have h5:=(Xrm (p:=p) (x:=c) (t:=v) (l:=r) (by omega) j).trans ((Cg.refl p _).add (c3.mul (Cg.refl p (Alg.gd r j))))
  refine(h5.add (Cg.refl p _)).trans (Cg.of ?_)
  rw[List.map_cons,Alg.pv,Int.pow_succ,Int.mul_add]
  generalize Alg.pv (xs.map fun r=>Alg.gd r j) x=u
  have:x ^ i*x*u=x ^ i*(u*x):=by rw[Int.mul_assoc,Int.mul_comm x u]
  omega
theorem Xuj{p:Int}(hp:2≤p∧p≤65521){w:Nat}(hw:w≤64){x:Int}(hx:E1 p x){R:List (List Int)}(hR:Rw p w R)(hn:R.length≤1024){G:Nat}(hG:1≤G∧G≤2){m:Nat}(hm:m≤1024)(z1 z2:Int):∀(c f g:Nat)(H:List (List Int)),g+c=m→c<f→Hld p w g G R x H→
  ∃H',X17 (w:Int) R x (m:Int) f H (g:Int) z1 z2 (G:Int) p=some (H',0)∧Hld p w m G R x H'
 |c,0,g,H,_,h,_=>by omega
 |0,f+1,g,H,hc0,_,h=>by
  rw[X17]
  unfold Xai
  rw[if_neg (by omega)]
  have:g=m:=by omega
  subst this
  exact⟨H,rfl,h⟩
 |c+1,f+1,g,H,hc0,hf,h=>by
  have hlen:=h.len
  have hgG:g*G≤1024*2:=Nat.mul_le_mul (by omega) hG.2
  rw[X17]
  unfold Xai
  rw[if_pos (by omega),lmk_ok _ (by omega),Option.bind_some]
  have hgl:(grp R G g).length≤G:=by unfold grp;rw[List.length_take];omega
  obtain⟨v,e1,e2,e3,e4⟩:=Xui hp hw hx hR hn (G:=G) (g:=g) (by omega) (by omega) (X2e (X17 (w:Int) R x (m:Int) f) (g:Int) H) z1 z2 (grp R G g) big 0 (List.replicate w 0) rfl (by omega) (by simp only [big];omega) (by simp) (X9h hp.1 w)
  rw[show((0:Nat):Int)=0 from rfl] at e1
  rw[e1]
  unfold X2e
  rw[Xe (by simp;omega),Option.bind_some,w64_id (by omega) (by omega),show(g:Int)+1=((g+1:Nat):Int) by omega]
  refine Xuj hp hw hx hR hn hG hm z1 z2 c f (g+1) (H++[v]) (by omega) (by omega) {len:=by simp [hlen],rw:=fun r hr=>?_,val:=fun g' hg' j=>?_}
  ·rcases List.mem_append.1 hr with hr |hr
   ·exact h.rw r hr
   ·rw[List.mem_singleton.1 hr];exact⟨e2,e3⟩
  ·rw[Xoc,hlen]
   by_cases hg2:g'<g
   ·rw[if_pos hg2];exact h.val g' hg2 j
   ·have e:g'=g:=by omega
    rw[if_neg hg2,if_pos e,e]
    have:=e4 j
    rw[Xcf] at this
    refine this.trans (Cg.of ?_)
    rw[Int.pow_zero,Int.one_mul,Int.zero_add];rfl
theorem Xuk{p:Int}(hf:Fp p){w:Nat}(kx:Int→Int→Int→Int→Option HR)(z1 z2 z3:Int):∀xs:List (List Int),Rw p w xs→X6g kx (w:Int) z1 z2 z3 p xs=kx z1 z2 z3 p
 | [],_=>rfl
 |r::xs,h=>by
  obtain⟨⟨a,b⟩,h⟩:=Rw.cons.1 h
  show Xaj kx (w:Int) z1 z2 z3 p (X6g kx (w:Int) z1 z2 z3 p xs) r=_
  unfold Xaj
  rw[if_neg (by omega),Xi9 hf b,Option.bind_some,if_neg (by decide)]
  exact Xuk hf kx z1 z2 z3 xs h
theorem Xod{s D n G:Nat}(hG:1≤G∧G≤2)(hn:n≤1024):Xbo ((s:Int),(D:Int),(G:Int)) (n:Int)=some (((ngr n G:Nat):Int),0):=by
 unfold Xbo
 dsimp only
 have hG3:G=1∨G=2:=by omega
 rw[if_neg (by omega),Xkt (by omega),Option.bind_some,Option.bind_some]
 have e1:Int.tmod (n:Int) (G:Int)=((n%G:Nat):Int):=by rw[Int.tmod_eq_emod_of_nonneg (by omega)];omega
 have e2:Int.tdiv (n:Int) (G:Int)=((n/G:Nat):Int):=by rw[Int.tdiv_eq_ediv_of_nonneg (by omega)];omega
 have h3:n/G≤n:=Nat.div_le_self _ _
 have h0:(0:Int)≤((n/G:Nat):Int):=Int.natCast_nonneg _
 rw[e1,e2]
 unfold ngr
 rcases hG3 with rfl |rfl
 ·rw[w64_id (x:=((n/1:Nat):Int)) (by omega) (by omega),if_neg (by omega),show n/1=(n+1-1)/1 by omega]
 ·rw[w64_id (x:=((n/2:Nat):Int)) (by omega) (by omega),w64_id (by omega) (by omega)]
  by_cases h4:(0:Int)<((n%2:Nat):Int)
  ·rw[if_pos h4,show((n/2:Nat):Int)+1=(((n+2-1)/2:Nat):Int) by omega]
  ·rw[if_neg h4,show n/2=(n+2-1)/2 by omega]
theorem Xoe{p:Int}(hf:Fp p){s D G w k:Nat}(h:StOK p s D G)(hG:G≤2)(hk:k<s)(hw:w≤64){R:List (List Int)}(hR:Rw p w R)(hn:R.length≤1024):
  ∃H,Xdo p ((s:Int),(D:Int),(G:Int)) (w:Int) R ((k:Int)+1)=some (H,0)∧Hld p w (ngr R.length G) G R ((k:Int)+1) H:=by
 have h':=h
 obtain⟨p1,p2,p3,p4,p5,p6⟩:=h'
 have hle:=Xl0 (n:=R.length) p5
 unfold Xdo
 rw[cdcheck hf h,Option.bind_some,if_neg (by decide)]
 dsimp only
 rw[if_neg (by omega),if_neg (by omega),Xuk hf _ _ _ _ R hR]
 unfold X6f
 rw[Xod ⟨p5,hG⟩ hn,Option.bind_some]
 exact Xuj hf.rng hw (x:=(k:Int)+1) ⟨by omega,by omega⟩ hR hn ⟨p5,hG⟩ (m:=ngr R.length G) (by omega) (s:Int) (D:Int) (ngr R.length G) big 0 [] (by omega) (by simp only [big];omega) {len:=rfl,rw:=fun r hr=>(by cases hr),val:=fun g hg=>absurd hg (by omega)}
theorem Xof{p:Int}{w:Nat}(hw:w≤1000){R:List (List Int)}(hR:Rw p w R)(hn:R.length≤1024):∀(m f i:Nat),i+m=R.length→m<f→X6h R f (R.take i) (i:Int)=some (R,0)
 |m,0,i,_,h=>by omega
 |0,f+1,i,h,_=>by
  rw[X6h]
  unfold Xak
  rw[if_neg (by omega),List.take_of_length_le (by omega)]
 |m+1,f+1,i,h,hf=>by
  rw[X6h]
  unfold Xak
  have hi:i<R.length:=by omega
  have hr:=hR.gr hi
  rw[if_pos (by omega),X9o hi,Option.bind_some,Xe (by simp;omega),Option.bind_some,List.nil_append,Xe (by simp;omega),Option.bind_some,w64_id (by omega) (by omega),show(i:Int)+1=((i+1:Nat):Int) by omega]
  have e:R.take i++[gr R i]=R.take (i+1):=by rw[List.take_succ_eq_append_getElem hi, ← Xfb hi]
  rw[e]
  exact Xof hw hR hn m f (i+1) (by omega) (by omega)
theorem tcheck_L{p:Int}(hf:Fp p){w:Nat}:∀R:List (List Int),Rw p w R→X5k p (w:Int) R=some 0
 | [],_=>rfl
 |r::R,h=>by
  obtain⟨⟨a,b⟩,h⟩:=Rw.cons.1 h
  show X90 p (w:Int) (X5k p (w:Int) R) r=_
  unfold X90
  rw[if_neg (by omega),Xi9 hf b,Option.bind_some,if_neg (by decide)]
  exact tcheck_L hf R h
theorem tcheck{p:Int}(hf:Fp p){w:Nat}(hw:1≤w∧w≤64){R:List (List Int)}(hR:Rw p w R)(hn:R.length≤1024){num:Int}(h1:1≤num∧num<2147483647):Xcx (num,p,(w:Int),R)=some 0:=by
 unfold Xcx
 dsimp only
 rw[if_neg (by omega),hf.ck,Option.bind_some,if_neg (by decide),if_neg (by omega),if_neg (by omega)]
 exact tcheck_L hf R hR
def ga(A:List Ans)(m:Nat):Ans:=A.getD m (false,[])
theorem Xul{A:List Ans}{i:Nat}{y:Ans}(h:i<A.length)(j:Nat):ga (A.set i y) j=if j=i then y else ga A j:=by
 unfold ga
 rw[List.getD_eq_getElem?_getD,List.getD_eq_getElem?_getD,List.getElem?_set]
 by_cases e:i=j
 ·subst e;simp [h]
 ·rw[if_neg e,if_neg (Ne.symm e)]
section
variable{p:Int}(hf:Fp p){w s:Nat}(hw:1≤w∧w≤64)(hs:2≤s∧s≤10){y:Int×Int×Int×Int}(hy:y.2.1=(s:Int)){num:Int}{R q:List (List Int)}(hq:q.length=s){Hon:Nat→List Int→Prop}
 (hheld:∀m,m<s→∃H row,Xb1 y (num,p,(w:Int),R) ((m:Int)+1)=some (H,0)∧X9x p (w:Int) H (gr q m)=some (row,0)∧row.length=w∧El p row∧Hon m row)
include hf hw hs hy hq hheld
theorem Xum{wr at_:Nat}(hwr:wr≤1)(hat:at_<s):∀(m f k:Nat)(A:List Ans)(liars:List Int)(d:List Int×Int),k+m=s→m<f→DiceOK d→A.length=s→liars.length≤(if k=0 then 0 else wr)→(∀t,t<k→(ga A ((at_+t)%s)).1=true∧(ga A ((at_+t)%s)).2.length=w∧El p (ga A ((at_+t)%s)).2∧(wr=0∨(at_+t)%s≠at_→Hon ((at_+t)%s) (ga A ((at_+t)%s)).2))→
  ∃A' liars' e,Xn Xi q 0 (wr:Int) (at_:Int) num p (w:Int) R y.1 y.2.1 y.2.2.1 y.2.2.2 f liars (k:Int) A d.1 d.2=some (A',liars',e)∧DiceOK e∧A'.length=s∧∀t,t<s→(ga A' ((at_+t)%s)).1=true∧(ga A' ((at_+t)%s)).2.length=w∧El p (ga A' ((at_+t)%s)).2∧(wr=0∨(at_+t)%s≠at_→Hon ((at_+t)%s) (ga A' ((at_+t)%s)).2)
 |m,0,k,_,_,_,_,h,_,_,_,_=>by omega
 |0,f+1,k,A,liars,d,hk,_,hd,hA,hl,hI=>by
  rw[Xn]
  unfold X3w
  rw[hy,if_neg (by omega)]
  unfold Xi
  rw[show big=(big-1)+1 from by simp only [big],X3v]
  unfold X5x
  have hl1:liars.length≤1:=by split at hl<;>omega
  rw[if_neg (by omega)]
  refine⟨A,liars,_,rfl,hd,hA,?_⟩
  rw[show s=k by omega] at hI ⊢
  exact hI
 |m+1,f+1,k,A,liars,d,hk,hfu,hd,hA,hl,hI=>by
  have hp:=hf.rng
  rw[Xn]
  unfold X3w
  have hpl:(at_+k)%s<s:=Nat.mod_lt _ (by omega)
  generalize hpos:(at_+k)%s=pos at hpl
  have ej:w64 ((Int.tmod (w64 ((at_:Int)+(k:Int))) (s:Int))+1)=(pos:Int)+1:=by
   rw[w64_id (x:=(at_:Int)+(k:Int)) (by omega) (by omega),show(at_:Int)+(k:Int)=((at_+k:Nat):Int) by omega,Int.tmod_eq_emod_of_nonneg (by omega),show((at_+k:Nat):Int)%(s:Int)=(((at_+k)%s:Nat):Int) by omega,hpos,w64_id (by omega) (by omega)]
  obtain⟨H,row,r1,r2,r3,r4,r5⟩:=hheld pos hpl
  have hyy:((y.1,((s:Int):Int),y.2.2.1,y.2.2.2):Int×Int×Int×Int)=y:=by rw[← hy]
  rw[hy,if_pos (by omega),Xkt (by omega),Option.bind_some,if_neg (by omega),ej,hyy,r1,Option.bind_some,w64_id (x:=(pos:Int)+1-1) (by omega) (by omega),show(pos:Int)+1-1=(pos:Int) by omega,X9o (by omega),Option.bind_some,r2,Option.bind_some]
  dsimp only
  have fin:∀(row':List Int)(liars':List Int)(d':List Int×Int),DiceOK d'→row'.length=w→El p row'→(wr=0∨pos≠at_→Hon pos row')→liars'.length≤wr→
    ∃A' liars'' e,X1q (Xn Xi q 0 (wr:Int) (at_:Int) num p (w:Int) R y.1 (s:Int) y.2.2.1 y.2.2.2 f) (k:Int) ((pos:Int)+1) A liars' row' d'.1 d'.2=some (A',liars'',e)∧DiceOK e∧A'.length=s∧∀t,t<s→(ga A' ((at_+t)%s)).1=true∧(ga A' ((at_+t)%s)).2.length=w∧El p (ga A' ((at_+t)%s)).2∧(wr=0∨(at_+t)%s≠at_→Hon ((at_+t)%s) (ga A' ((at_+t)%s)).2):=fun row' liars' d' hd' g1 g2 g3 g4=>by
   unfold X1q
   rw[w64_id (x:=(pos:Int)+1-1) (by omega) (by omega),show(pos:Int)+1-1=(pos:Int) by omega,Xbg (false,[]) (by omega),Option.bind_some,X32 (by omega),Option.bind_some,w64_id (by omega) (by omega),show(k:Int)+1=((k+1:Nat):Int) by omega]
   have ih:=Xum hwr hat m f (k+1) (A.set pos (true,row')) liars' d' (by omega) (by omega) hd' (by simpa using hA) (by rw[if_neg (by omega)];exact g4) (fun t ht=>by
    rw[Xul (by omega)]
    by_cases e:(at_+t)%s=pos
    ·rw[if_pos e,e];exact⟨rfl,g1,g2,g3⟩
    ·rw[if_neg e]
     exact hI t (by
      rcases Nat.lt_or_ge t k with h |h
      ·exact h
      ·exact absurd (by rw[show t=k by omega];exact hpos) e))
   rw[hy] at ih
   exact ih
  by_cases hlie:k<wr
  ·have hk0:k=0:=by omega
   have hpa:pos=at_:=by rw[← hpos,hk0,Nat.add_zero];exact Nat.mod_eq_of_lt hat
   rw[w64_id (x:=0+(wr:Int)) (by omega) (by omega),if_pos (by omega)]
   obtain⟨v,e1,b1,v0,v1,c1⟩:=dpick (d:=(d.1,d.2)) hd (n:=(w:Int)) (by omega)
   rw[b1,Option.bind_some,Xec 0 v0 (by omega),Option.bind_some,w64_id (x:=p-1) (by omega) (by omega)]
   obtain⟨u,e2,b2,u0,u1,c2⟩:=dpick (d:=e1) c1 (n:=p-1) (by omega)
   rw[b2,Option.bind_some,nzp hp,Option.bind_some,Option.bind_some,X67 v0 (by omega),Option.bind_some]
   unfold X5y
   have hl0:liars.length=0:=by rw[if_pos hk0] at hl;omega
   rw[Xe (by simp;omega),Option.bind_some]
   refine fin _ _ e2 c2 (by rw[List.length_set];exact r3) (fun z hz=>?_) (fun h=>?_) (by simp;omega)
   ·rcases List.mem_or_eq_of_mem_set hz with h |rfl
    ·exact r4 z h
    ·have hx:E1 p (row.getD v.toNat 0):=El.gd hp.1 r4 v.toNat
     have:=hx.1
     have:=hx.2
     rw[w64_id (x:=row.getD v.toNat 0+1) (by omega) (by omega),w64_id (by omega) (by omega),md hp (by omega)]
     exact E1.emod hp.1 _
   ·rcases h with h |h
    ·omega
    ·exact absurd hpa h
  ·rw[w64_id (x:=0+(wr:Int)) (by omega) (by omega),if_neg (by omega)]
   exact fin row liars d hd r3 r4 (fun _=>r5) (by split at hl<;>omega)
theorem Xge{wr:Nat}(hwr:wr≤1){d:List Int×Int}(hd:DiceOK d):
  ∃L liars e i0,X4e d y (num,p,(w:Int),R) q 0 (wr:Int)=some (L,liars,e)∧DiceOK e∧L.length=s∧∀m,m<s→(ga L m).1=true∧(ga L m).2.length=w∧El p (ga L m).2∧(wr=0∨m≠i0→Hon m (ga L m).2):=by
 unfold X4e
 dsimp only
 rw[hy,lmk_ok _ (by omega),Option.bind_some]
 obtain⟨v,e1,b1,v0,v1,c1⟩:=dpick hd (n:=(s:Int)) (by omega)
 rw[b1,Option.bind_some]
 obtain⟨a,rfl⟩:∃a:Nat,v=(a:Int):=⟨v.toNat,by omega⟩
 obtain⟨A,liars,e,g1,g2,g3,g4⟩:=Xum hf hw hs hy hq hheld hwr (at_:=a) (by omega) s big 0 (List.replicate s (false,[])) [] e1 (by omega) (by simp only [big];omega) c1 (by simp) (by simp) (fun t ht=>by omega)
 rw[hy,show((0:Nat):Int)=0 from rfl] at g1
 refine⟨A,liars,e,a,g1,g2,g3,fun m hm=>?_⟩
 by_cases h:a≤m
 ·have:=g4 (m-a) (by omega)
  rwa [show(a+(m-a))%s=m by rw[show a+(m-a)=m by omega];exact Nat.mod_eq_of_lt hm] at this
 ·have:=g4 (m+s-a) (by omega)
  rwa [show(a+(m+s-a))%s=m by rw[show a+(m+s-a)=m+s by omega,Nat.add_mod_right];exact Nat.mod_eq_of_lt hm] at this
end
end Go.Proofs.YtmfppphlhgneeaaGreat.Hh
end

section
namespace Go.Proofs.YtmfppphlhgneeaaGreat.Hh
set_option linter.unusedVariables false
open Alg (Cg Pr)
abbrev Sch:=Int×Int×Int×Int
inductive SOK(p:Int):Sch→Nat→Nat→(Nat→Nat)→Prop
 |par (s:Nat) (h:2≤s∧s≤10):SOK p (1,(s:Int),0,0) s s (fun n=>n*(s-1))
 |cv (s d:Nat) (h:PlanOK p s d):SOK p (2,(s:Int),(d:Int),0) s (d+1) (fun n=>n*d)
 |cd (s D G:Nat) (h:StOK p s D G) (hG:G≤2):SOK p (3,(s:Int),(D:Int),(G:Int)) s (2*G+D-1) (fun n=>ngr n G*D)
section
variable{p:Int}{y:Sch}{s k:Nat}{c:Nat→Nat}
theorem SOK.srv(h:SOK p y s k c):y.2.1=(s:Int)∧2≤s∧s≤10:=by
 cases h with
 |par s h=>exact⟨rfl,h⟩
 |cv s d h=>exact⟨rfl,h.1,h.2.1⟩
 |cd s D G h hG=>exact⟨rfl,h.1,h.2.1⟩
theorem SOK.shape(h:SOK p y s k c):X5a y=some true:=by
 cases h with
 |par s h=>unfold X5a;dsimp only;rw[if_neg (by omega),if_pos rfl,decide_eq_true ⟨rfl,rfl⟩]
 |cv s d h=>
  obtain⟨h1,h2,h3,h4,h5⟩:=h
  unfold X5a;dsimp only;rw[if_neg (by omega),if_neg (by omega),if_pos rfl,w64_id (by omega) (by omega),decide_eq_true ⟨by omega,rfl⟩]
 |cd s D G h hG=>
  obtain⟨h1,h2,h3,h4,h5,h6⟩:=h
  unfold X5a;dsimp only;rw[if_neg (by omega),if_neg (by omega),if_neg (by omega),if_pos rfl,w64_id (x:=2*(G:Int)) (by omega) (by omega),w64_id (x:=2*(G:Int)+D) (by omega) (by omega),w64_id (by omega) (by omega),decide_eq_true (by omega)]
theorem SOK.valid(hf:Fp p)(h:SOK p y s k c):X4l y p=some true:=by
 have hs:=h.shape
 unfold X4l
 rw[hs,Option.bind_some,if_pos rfl,hf.ck,Option.bind_some,Option.bind_some]
 refine congrArg some (decide_eq_true ⟨rfl,?_⟩)
 cases h with
 |par s h=>exact .inl rfl
 |cv s d h=>exact .inr h.2.2.2.2
 |cd s D G h hG=>exact .inr h.2.2.1
theorem SOK.bears(h:SOK p y s k c):Xcw y 0 1=some (decide (k+2≤s)):=by
 have hs:=h.shape
 obtain⟨e,h1,h2⟩:=h.srv
 have hn:Xdn y=some (k:Int)∧k≤100:=by
  unfold Xdn
  rw[hs,Option.bind_some,if_neg (by decide)]
  cases h with
  |par s h=>exact⟨rfl,by omega⟩
  |cv s d h=>
   have:=h.2.2.2.1
   rw[if_neg (by simp),if_pos rfl];dsimp only;rw[w64_id (by omega) (by omega)];exact⟨by simp,by omega⟩
  |cd s D G h hG=>
   obtain⟨h1,h2,h3,h4,h5,h6⟩:=h
   rw[if_neg (by simp),if_neg (by simp)];dsimp only
   rw[w64_id (x:=2*(G:Int)) (by omega) (by omega),w64_id (x:=2*(G:Int)+D) (by omega) (by omega),w64_id (by omega) (by omega)]
   exact⟨by congr 1;omega,by omega⟩
 unfold Xcw
 rw[hs,Option.bind_some,e,if_pos (by simp;omega),hn.1,Option.bind_some,Option.bind_some,w64_id (x:=2*1) (by omega) (by omega),w64_id (x:=(k:Int)+0) (by omega) (by omega),w64_id (by omega) (by omega)]
 exact congrArg some (decide_eq_decide.2 (by omega))
theorem Xmd{s D G n:Nat}(h:StOK p s D G)(hG:G≤2)(hn:1≤n∧n≤1024):Xb0 (3,(s:Int),(D:Int),(G:Int)) (n:Int)=some ((ngr n G:Nat):Int):=by
 unfold Xb0
 have h5:=h.2.2.2.2.1
 rw[(SOK.cd s D G h hG).shape,Option.bind_some,if_neg (by simp;omega),if_pos rfl]
 dsimp only
 have hle:=Xl0 (n:=n) h5
 have e:Int.tdiv ((n:Int)+G-1) (G:Int)=((ngr n G:Nat):Int):=by
  rw[Int.tdiv_eq_ediv_of_nonneg (by omega),show(n:Int)+G-1=((n+G-1:Nat):Int) by omega];unfold ngr;omega
 rw[Xkt (by omega),Option.bind_some,w64_id (x:=(n:Int)+G) (by omega) (by omega),w64_id (x:=(n:Int)+G-1) (by omega) (by omega),e,w64_id (by omega) (by omega)]
theorem SOK.limits(hf:Fp p)(h:SOK p y s k c){n:Nat}(hn:1≤n∧n≤64):Xbm y p (n:Int)=some (List.replicate (c n) p,0)∧c n≤640:=by
 have hv:=h.valid hf
 unfold Xbm
 rw[hv,Option.bind_some,if_neg (by decide),if_neg (by omega)]
 cases h with
 |par s h=>
  refine⟨?_,show n*(s-1)≤64*10 from Nat.mul_le_mul hn.2 (by omega)⟩
  rw[if_pos rfl];dsimp only;rw[prlimits hf (by omega) h];rfl
 |cv s d h=>
  refine⟨?_,show n*d≤64*10 from Nat.mul_le_mul hn.2 (by have:=h.2.1;have:=h.2.2.2.1;omega)⟩
  rw[if_neg (by simp),if_pos rfl];unfold X9u;rw[Option.bind_some];dsimp only;rw[cvlimits hf h (by omega)];rfl
 |cd s D G h hG=>
  have hle:=Xl0 (n:=n) h.2.2.2.2.1
  have hpos:=Xnz (n:=n) h.2.2.2.2.1 hn.1
  refine⟨?_,show ngr n G*D≤64*10 from Nat.mul_le_mul (by omega) (by have:=h.2.1;have:=h.2.2.2.2.1;have:=h.2.2.2.2.2;omega)⟩
  rw[if_neg (by simp),if_neg (by simp)];unfold X31;rw[Option.bind_some,Xmd h hG (by omega),Option.bind_some];dsimp only;rw[cdlimits hf h (by omega)];rfl
end
theorem Xme{A:List Ans}{m:Nat}(h:m<A.length):ga A m=A[m]:=by simp [ga,List.getD_eq_getElem?_getD,h]
theorem Xqi:∀L:List Ans,(∀a∈L,a.1=true)→nk L=L.length
 | [],_=>rfl
 |a::L,h=>by
  have ih:=Xqi L fun b hb=>h b (List.mem_cons_of_mem _ hb)
  unfold nk at ih ⊢
  rw[List.filter_cons,if_pos (h a List.mem_cons_self),List.length_cons,List.length_cons,ih]
theorem Xl2{p:Int}{w s:Nat}{L:List Ans}(hl:L.length=s)(h:∀m,m<s→(ga L m).1=true∧(ga L m).2.length=w∧El p (ga L m).2):AnsOK p w L∧nk L=s:=by
 have hall:∀a∈L,a.1=true∧a.2.length=w∧El p a.2:=fun a ha=>by
  obtain⟨m,hm,rfl⟩:=List.getElem_of_mem ha
  rw[← Xme hm];exact h m (by omega)
 exact⟨fun a ha _=>(hall a ha).2,by rw[Xqi L fun a ha=>(hall a ha).1];exact hl⟩
theorem Xqj{p:Int}{w s k j wr i0:Nat}{L:List Ans}{f:List Int}(hl:L.length=s)(hn:nk L=s)(hw:wr=0∨k+2≤s)(h1:El p f)(h2:f.length≤k)(h:∀m,m<s→(wr=0∨m≠i0)→Cg p (Alg.pv f ((m:Int)+1)) (Alg.gd (ga L m).2 j)):Fit p k L j f:=by
 rcases hw with h0 |h0
 ·exact(Xnx h1 h2 fun i hi _=>by rw[← Xme hi];exact h i (by omega) (.inl h0)).1
 ·exact Xs4 i0 (by omega) h1 h2 fun i hi hne _=>by rw[← Xme hi];exact h i (by omega) (.inr hne)
theorem Xmf{p:Int}(hf:Fp p){y:Sch}{s k:Nat}{c:Nat→Nat}(h:SOK p y s k c)(hk3:y.1≠3){w:Nat}(hw:1≤w∧w≤64){R:List (List Int)}(hR:Rw p w R)(hn:R.length≤1024){m:Nat}(hm:m<s):Xb1 y (1,p,(w:Int),R) ((m:Int)+1)=some (R,0):=by
 obtain⟨e,_,_⟩:=h.srv
 unfold Xb1
 rw[tcheck hf hw hR hn (by omega),Option.bind_some,if_neg (by decide)]
 dsimp only
 rw[h.valid hf,Option.bind_some,if_neg (by decide),e,if_neg (by omega),if_neg hk3]
 exact Xof (w:=w) (p:=p) (by omega) hR hn R.length big 0 (by omega) (by simp only [big];omega)
theorem Xqk{l:List Int}{w:Nat}(h:l.length=w):((List.range w).map fun j=>Alg.gd l j)=l:=by
 refine List.ext_getElem (by simp [h]) fun i h1 h2=>?_
 simp [Alg.gd,List.getD_eq_getElem?_getD,h2]
section
variable{p:Int}(hf:Fp p){w:Nat}(hw:1≤w∧w≤64){R:List (List Int)}(hR:Rw p w R)(hn:1≤R.length∧R.length≤64)
def Good(p:Int)(w:Nat)(R:List (List Int))(y:Sch)(s k i:Nat)(qs:List (List Int)):Prop:=∀wr:Nat,wr≤1→(wr=0∨k+2≤s)→∀d:List Int×Int,DiceOK d→
 ∃L liars e wrong,X4e d y (1,p,(w:Int),R) qs 0 (wr:Int)=some (L,liars,e)∧DiceOK e∧X50 y p (w:Int) (i:Int) L=some ((gr R i,wrong),0)
include hf hw hR hn
theorem Xpm{s:Nat}(hs:2≤s∧s≤10){i:Nat}(hi:i<R.length){qs:List (List Int)}(hq:Qs p R.length s i qs):Good p w R (1,(s:Int),0,0) s s i qs:=fun wr hwr hwk d hd=>by
 have hp:=hf.rng
 have h0:wr=0:=by omega
 have hS:SOK p (1,(s:Int),0,0) s s (fun n=>n*(s-1)):= .par s hs
 have hqe:∀m,m<s→(gr qs m).length=R.length∧El p (gr qs m):=fun m hm=>hq.rw.gr (by rw[hq.len];exact hm)
 obtain⟨L,liars,e,i0,a1,a2,a3,a4⟩:=Xge hf hw hs (y:=(1,(s:Int),0,0)) rfl (num:=1) (R:=R) hq.len (Hon:=fun m row=>row=comb p (gr qs m) R (List.replicate w 0)) (fun m hm=>by
  obtain⟨b1,b2,b3⟩:=Xcg hf (c:=gr qs m) hR
  exact⟨R,_,Xmf hf hS (by simp) hw hR (by omega) hm,Xhl hf (hqe m hm).2 hw.2 hR (hqe m hm).1,b1,b2,rfl⟩) hwr hd
 let rows:List (List Int):=(List.range s).map fun m=>comb p (gr qs m) R (List.replicate w 0)
 have hrl:rows.length=s:=by simp [rows]
 have hLr:L=rows.map fun r=>(true,r):=by
  refine List.ext_getElem (by simp [rows,a3]) fun m h1 h2=>?_
  have:=a4 m (by omega)
  rw[Xme h1] at this
  simp only [rows,List.getElem_map,List.getElem_range]
  exact Prod.ext this.1 (this.2.2.2 (.inl h0))
 have hrw:Rw p w rows:=fun r hr=>by
  obtain⟨m,_,rfl⟩:=List.mem_map.1 hr
  exact⟨(Xcg hf hR).1,(Xcg hf hR).2.1⟩
 refine⟨L,liars,e,[],a1,a2,?_⟩
 unfold X50
 rw[hS.valid hf,Option.bind_some,if_neg (by decide),if_neg (by omega)]
 dsimp only
 rw[if_neg (by omega),if_pos rfl,hLr,Xpk hf hw.2 hrw (by omega),Option.bind_some]
 obtain⟨g1,g2,g3⟩:=Xns hp.1 rows (List.replicate w 0) hrw (by simp) (X9h hp.1 w)
 have hri:=hR.gr hi
 have:sumr p rows (List.replicate w 0)=gr R i:=El.ext hp.1 g2 hri.2 (by omega) fun j _=>by
  refine(g3 j).trans ?_
  rw[Xcf,Int.zero_add,hrl]
  have e1:Cg p (Alg.sm s (fun m=>Alg.gd (gr rows m) j)) (Alg.sm s (fun m=>Alg.sm R.length (fun r=>Alg.gd (gr qs m) r*Alg.gd (gr R r) j))):=Alg.X9g fun m hm=>by
   have:gr rows m=comb p (gr qs m) R (List.replicate w 0):=by rw[Xfb (by omega)];simp [rows]
   rw[this];exact(Xcg hf hR).2.2 j
  refine e1.trans ?_
  rw[Xli (fun m r=>Alg.gd (gr qs m) r*Alg.gd (gr R r) j)]
  have e2:Cg p (Alg.sm R.length (fun r=>Alg.sm s (fun m=>Alg.gd (gr qs m) r*Alg.gd (gr R r) j))) (Alg.sm R.length (fun r=>(if r=i then 1 else 0)*Alg.gd (gr R r) j)):=Alg.X9g fun r hr=>by
   rw[Xf0 (Alg.gd (gr R r) j) (fun m=>Alg.gd (gr qs m) r)]
   exact(hq.sum r).mul (Cg.refl p _)
  refine e2.trans ?_
  have:=Alg.Xkr (p:=p) (f:=fun r=>(if r=i then 1 else 0)*Alg.gd (gr R r) j) (q:=i) (n:=R.length) (fun r _ h=>Cg.of (by simp [h])) hi
  exact this.trans (Cg.of (by simp))
 rw[this]
theorem Xs5{s d:Nat}(h:PlanOK p s d){i:Nat}(hi:i<R.length){T:List Int}{qs:List (List Int)}(hq:Qc p s d i T R.length qs):Good p w R (2,(s:Int),(d:Int),0) s (d+1) i qs:=fun wr hwr hwk dc hd=>by
 have hp:=hf.rng
 have h':=h
 obtain⟨p1,p2,p3,p4,p5⟩:=h'
 have hS:SOK p (2,(s:Int),(d:Int),0) s (d+1) (fun n=>n*d):= .cv s d h
 have hqe:∀m,m<s→(gr qs m).length=R.length∧El p (gr qs m):=fun m hm=>hq.rw.gr (by rw[hq.len];exact hm)
 obtain⟨L,liars,e,i0,a1,a2,a3,a4⟩:=Xge hf hw ⟨p1,p2⟩ (y:=(2,(s:Int),(d:Int),0)) rfl (num:=1) (R:=R) hq.len (Hon:=fun m row=>∀j,Cg p (Alg.gd row j) (Alg.sm R.length (fun r=>Alg.gd (gr qs m) r*Alg.gd (gr R r) j))) (fun m hm=>by
  obtain⟨b1,b2,b3⟩:=Xcg hf (c:=gr qs m) hR
  exact⟨R,_,Xmf hf hS (by simp) hw hR (by omega) hm,Xhl hf (hqe m hm).2 hw.2 hR (hqe m hm).1,b1,b2,b3⟩) hwr hd
 obtain⟨f1,f2⟩:=Xl2 (p:=p) (w:=w) a3 fun m hm=>⟨(a4 m hm).1,(a4 m hm).2.1,(a4 m hm).2.2.1⟩
 have hF:∀j,j<w→Fit p (d+1) L j (mixf p R.length (d+1) (hid d i T) R j):=fun j _=>Xqj (w:=w) a3 f2 hwk (Xru hp.1 _ _ _ _ _) (by simp [mixf]) fun m hm hne=>by
  refine(Xrv (fun r _=>Xrw r) _).trans (Cg.symm (((a4 m hm).2.2.2 hne j).trans ?_))
  exact Alg.X9g fun r hr=>(hq.val m hm r hr).mul (Cg.refl p _)
 obtain⟨wrong,hdec⟩:=Xpi hf h hw.2 f1 a3 f2 hF
 refine⟨L,liars,e,wrong,a1,a2,?_⟩
 unfold X50 X9u
 rw[hS.valid hf,Option.bind_some,if_neg (by decide),if_neg (by omega)]
 dsimp only
 rw[if_neg (by omega),if_neg (by decide),if_pos rfl,Option.bind_some,hdec,Option.bind_some]
 have hri:=hR.gr hi
 have:((List.range w).map fun j=>Alg.gd (mixf p R.length (d+1) (hid d i T) R j) 0)=gr R i:=by
  rw[← Xqk hri.1]
  refine List.map_congr_left fun j _=>?_
  rw[Xrx hp.1 hR rfl hi (by omega) j]
 rw[this]
theorem Xs6{s D G:Nat}(h:StOK p s D G)(hG:G≤2){i:Nat}(hi:i<R.length){T:List Int}{qs:List (List Int)}(hq:Qd p s D G (ngr R.length G) (i/G) T qs):Good p w R (3,(s:Int),(D:Int),(G:Int)) s (2*G+D-1) i qs:=fun wr hwr hwk dc hd=>by
 have hp:=hf.rng
 have h':=h
 obtain⟨p1,p2,p3,p4,p5,p6⟩:=h'
 have hS:SOK p (3,(s:Int),(D:Int),(G:Int)) s (2*G+D-1) (fun n=>ngr n G*D):= .cd s D G h hG
 have hle:=Xl0 (n:=R.length) p5
 have hmd:=Nat.div_add_mod i G
 have hml:=Nat.mod_lt i (show 0<G by omega)
 have hgi:i/G*G+i%G=i:=by rw[Nat.mul_comm];exact hmd
 have hgp:i/G<ngr R.length G:=(Xm3 p5).2 (by omega)
 have hqe:∀m,m<s→(gr qs m).length=ngr R.length G∧El p (gr qs m):=fun m hm=>hq.rw.gr (by rw[hq.len];exact hm)
 obtain⟨L,liars,e,i0,a1,a2,a3,a4⟩:=Xge hf hw ⟨p1,p2⟩ (y:=(3,(s:Int),(D:Int),(G:Int))) rfl (num:=1) (R:=R) hq.len (Hon:=fun m row=>∃H,Hld p w (ngr R.length G) G R ((m:Int)+1) H∧∀j,Cg p (Alg.gd row j) (Alg.sm (ngr R.length G) (fun r=>Alg.gd (gr qs m) r*Alg.gd (gr H r) j))) (fun m hm=>by
  obtain⟨H,h1,h2⟩:=Xoe hf h hG hm hw.2 hR (by omega)
  obtain⟨b1,b2,b3⟩:=Xcg hf (c:=gr qs m) h2.rw
  refine⟨H,_,?_,Xhl hf (hqe m hm).2 hw.2 h2.rw (by rw[h2.len];exact(hqe m hm).1),b1,b2,H,h2,fun j=>by have:=b3 j;rwa [h2.len] at this⟩
  unfold Xb1
  rw[tcheck hf hw hR (by omega) (by omega),Option.bind_some,if_neg (by decide)]
  dsimp only
  rw[hS.valid hf,Option.bind_some,if_neg (by decide),if_neg (by omega),if_pos rfl]
  unfold X31
  rw[Option.bind_some]
  dsimp only
  rw[h1,Option.bind_some]) hwr hd
 obtain⟨f1,f2⟩:=Xl2 (p:=p) (w:=w) a3 fun m hm=>⟨(a4 m hm).1,(a4 m hm).2.1,(a4 m hm).2.2.1⟩
 have hF:∀j,j<w→Fit p (2*G+D-1) L j (fcd p D G (ngr R.length G) (i/G) T R j):=fun j _=>Xqj (w:=w) a3 f2 hwk (Xq2 hp.1) (Xry p4 p5) fun m hm hne=>by
  obtain⟨H,h1,h2⟩:=(a4 m hm).2.2.2 hne
  exact Xtj hq hm hgp h1 (h2 j)
 obtain⟨wrong,hdec⟩:=Xpj hf h hw.2 f1 a3 f2 hF
 refine⟨L,liars,e,wrong,a1,a2,?_⟩
 unfold X50 X31
 rw[hS.valid hf,Option.bind_some,if_neg (by decide),if_neg (by omega)]
 dsimp only
 have em:Int.tmod (i:Int) (G:Int)=((i%G:Nat):Int):=by rw[Int.tmod_eq_emod_of_nonneg (by omega)];omega
 rw[if_neg (by omega),if_neg (by decide),if_neg (by decide),Option.bind_some,hdec,Option.bind_some,if_neg (by simp),Xkt (by omega),Option.bind_some,em]
 dsimp only
 rw[X9o (by simp;omega),Option.bind_some]
 have hri:=hR.gr hi
 have:gr ((List.range G).map fun t=>(List.range w).map fun j=>Alg.gd (fcd p D G (ngr R.length G) (i/G) T R j) t) (i%G)=gr R i:=by
  rw[Xfb (by simp;omega), ← Xqk hri.1]
  simp only [List.getElem_map,List.getElem_range]
  refine List.map_congr_left fun j _=>?_
  rw[Xrz hp.1 hR hml (by omega),hgi]
 rw[this]
theorem SOK.queries{y:Sch}{s k:Nat}{c:Nat→Nat}(h:SOK p y s k c){i:Nat}(hi:i<R.length){T:List Int}(hT:El p T)(hl:T.length≤16384){a:Nat}(hac:a+c R.length≤T.length):
  ∃qs,Xad y p (R.length:Int) (i:Int) (T,(a:Int))=some (qs,(T,((a+c R.length:Nat):Int)),0)∧Good p w R y s k i qs:=by
 have hv:=h.valid hf
 unfold Xad
 rw[hv,Option.bind_some,if_neg (by decide),if_neg (by omega),if_neg (by omega)]
 cases h with
 |par s h=>
  obtain⟨qs,q1,q2⟩:=prqueries hf (n:=R.length) (by omega) h hi hT hl hac
  rw[if_pos rfl]
  dsimp only
  rw[q1]
  exact⟨qs,rfl,Xpm hf hw hR hn h hi q2⟩
 |cv s d h=>
  obtain⟨qs,q1,q2⟩:=cvqueries hf h (n:=R.length) (by omega) hi hT hl hac
  rw[if_neg (by simp),if_pos rfl]
  unfold X9u
  rw[Option.bind_some]
  dsimp only
  rw[q1]
  exact⟨qs,rfl,Xs5 hf hw hR hn h hi q2⟩
 |cd s D G h hG=>
  have h5:=h.2.2.2.2.1
  have hle:=Xl0 (n:=R.length) h5
  have hpos:=Xnz (n:=R.length) h5 hn.1
  have hmd:=Nat.div_mul_le_self i G
  have hgp:i/G<ngr R.length G:=(Xm3 h5).2 (by omega)
  obtain⟨qs,q1,q2⟩:=cdqueries hf h (m:=ngr R.length G) (by omega) hgp hT hl hac
  have ed:Int.tdiv (i:Int) (G:Int)=((i/G:Nat):Int):=by rw[Int.tdiv_eq_ediv_of_nonneg (by omega)];omega
  rw[if_neg (by simp),if_neg (by simp)]
  dsimp only
  rw[Xkt (by omega),Option.bind_some]
  unfold X31
  rw[Option.bind_some,Xmd h hG (by omega),Option.bind_some]
  dsimp only
  have hdl:=Nat.div_le_self i G
  rw[ed]
  generalize hz:i/G=z at*
  rw[w64_id (x:=((z:Nat):Int)) (by omega) (by omega),q1]
  refine⟨qs,rfl,?_⟩
  subst hz
  exact Xs6 hf hw hR hn h hG hi q2
end
end Go.Proofs.YtmfppphlhgneeaaGreat.Hh
end

section
namespace Go.Proofs.YtmfppphlhgneeaaGreat.Hh
set_option linter.unusedVariables false
open Alg (Cg Pr)
section
variable{p:Int}(hf:Fp p){y:Sch}{s k:Nat}{c:Nat→Nat}(h:SOK p y s k c)
include hf h
theorem l24_L{n m:Nat}(hn:1≤n∧n≤64)(hm:m≤16):∀(d f i:Nat),i+d=m→d<f→X4m (n:Int) (m:Int) p y.1 y.2.1 y.2.2.1 y.2.2.2 f (List.replicate (i*c n) p) (i:Int)=some (List.replicate (m*c n) p,0)
 |d,0,i,_,h=>by omega
 |0,f+1,i,hi,_=>by
  rw[X4m]
  unfold X7r
  rw[if_neg (by omega),show i=m by omega]
 |d+1,f+1,i,hi,hfu=>by
  obtain⟨h1,h2⟩:=h.limits hf hn
  have h3:i*c n≤16*640:=Nat.mul_le_mul (by omega) h2
  rw[X4m]
  unfold X7r
  rw[if_pos (by omega),show((y.1,y.2.1,y.2.2.1,y.2.2.2):Sch)=y from rfl,h1,Option.bind_some,if_neg (by simp),Xe (by simp;omega),Option.bind_some,w64_id (by omega) (by omega),show(i:Int)+1=((i+1:Nat):Int) by omega]
  dsimp only
  rw[List.replicate_append_replicate,show i*c n+c n=(i+1)*c n by rw[Nat.add_mul,Nat.one_mul]]
  exact l24_L hn hm d f (i+1) (by omega) (by omega)
theorem limits24{n m:Nat}(hn:1≤n∧n≤64)(hm:1≤m∧m≤16):Xbn y p (n:Int) (m:Int)=some (List.replicate (m*c n) p,0):=by
 unfold Xbn
 rw[h.valid hf,Option.bind_some,if_neg (by decide),if_neg (by omega)]
 have:=l24_L hf h hn hm.2 m big 0 (by omega) (by simp only [big];omega)
 rw[Nat.zero_mul] at this
 exact this
end
theorem Xql{p:Int}(hp:2≤p∧p≤65521){N:Nat}(hN:N≤100000):∀(m f i:Nat)(acc:List Int)(d:List Int×Int),i+m=N→m<f→acc.length=i→El p acc→DiceOK d→∃T e,X2y X2x (List.replicate N p) f (i:Int) acc d.1 d.2=some ((T,0),e)∧T.length=N∧El p T∧DiceOK e
 |m,0,i,_,_,_,h,_,_,_=>by omega
 |0,f+1,i,acc,d,hi,_,ha,he,hd=>by
  rw[X2y]
  unfold X63
  rw[if_neg (by simp;omega)]
  exact⟨acc,d,rfl,by omega,he,hd⟩
 |m+1,f+1,i,acc,d,hi,hfu,ha,he,hd=>by
  rw[X2y]
  unfold X63
  obtain⟨v,e1,b1,v0,v1,c1⟩:=dpick (d:=(d.1,d.2)) hd (n:=256) (by omega)
  obtain⟨u,e2,b2,u0,u1,c2⟩:=dpick (d:=e1) c1 (n:=5) (by omega)
  have hg:Alg.gd (List.replicate N p) i=p:=by simp [Alg.gd,List.getD_eq_getElem?_getD,show i<N by omega]
  have h7:0≤7*(i:Int)*u∧7*(i:Int)*u≤7*100000*5:=⟨Int.mul_nonneg (by omega) u0,Int.mul_le_mul (by omega) (by omega) u0 (by omega)⟩
  rw[if_pos (by simp;omega),X1x (by simp;omega),hg,Option.bind_some,b1,Option.bind_some,b2,Option.bind_some,nzp hp,Option.bind_some,w64_id (x:=7*(i:Int)) (by omega) (by omega),w64_id (x:=7*(i:Int)*u) (by omega) (by omega),w64_id (x:=v+7*(i:Int)*u) (by omega) (by omega),md hp (by omega),Xe (by simp;omega),Option.bind_some,w64_id (by omega) (by omega),show(i:Int)+1=((i+1:Nat):Int) by omega]
  exact Xql hp hN m f (i+1) _ e2 (by omega) (by omega) (by simp [ha]) (he.app (El.cons.2 ⟨E1.emod hp.1 _,El.nil⟩)) c2
theorem Xs7{p:Int}(hp:2≤p∧p≤65521){N:Nat}(hN:N≤100000){d:List Int×Int}(hd:DiceOK d):∃T e,X8z d (List.replicate N p)=some ((T,0),e)∧T.length=N∧El p T∧DiceOK e:=by
 unfold X8z
 exact Xql hp hN N big 0 [] d (by omega) (by simp only [big];omega) rfl El.nil hd
theorem Xog{p:Int}(hp:11≤p){d:List Int×Int}(hd:DiceOK d):∃y e s k c,X6p d=some (y,e)∧SOK p y s k c∧DiceOK e:=by
 unfold X6p
 obtain⟨v,e1,b1,v0,v1,c1⟩:=dpick hd (n:=4) (by omega)
 obtain⟨u,e2,b2,u0,u1,c2⟩:=dpick (d:=e1) c1 (n:=3) (by omega)
 rw[b1,Option.bind_some,b2,Option.bind_some]
 obtain⟨s,hs⟩:∃s:Nat,3+v=(s:Int):=⟨(3+v).toNat,by omega⟩
 dsimp only
 rw[w64_id (x:=3+v) (by omega) (by omega),hs]
 by_cases h0:u=0
 ·rw[if_pos h0]
  exact⟨_,e2,s,s,_,rfl, .par s (by omega),c2⟩
 ·rw[if_neg h0]
  by_cases h1:u=1
  ·obtain⟨t,e3,b3,t0,t1,c3⟩:=dpick (d:=e2) c2 (n:=2) (by omega)
   obtain⟨D,hD⟩:∃D:Nat,1+t=(D:Int):=⟨(1+t).toNat,by omega⟩
   rw[if_pos h1,b3,Option.bind_some]
   dsimp only
   rw[w64_id (x:=1+t) (by omega) (by omega),hD]
   exact⟨_,e3,s,D+1,_,rfl, .cv s D ⟨by omega,by omega,by omega,by omega,by omega⟩,c3⟩
  ·rw[if_neg h1]
   have one:∀d:List Int×Int,DiceOK d→∃y e s' k c,((Xb d 2).bind fun u49=>some ((((3:Int),(s:Int),(w64 (1+u49.1)),(1:Int)):Sch),u49.2))=some (y,e)∧SOK p y s' k c∧DiceOK e:=fun d hd=>by
    obtain⟨t,e3,b3,t0,t1,c3⟩:=dpick hd (n:=2) (by omega)
    obtain⟨D,hD⟩:∃D:Nat,1+t=(D:Int):=⟨(1+t).toNat,by omega⟩
    rw[b3,Option.bind_some]
    dsimp only
    rw[w64_id (x:=1+t) (by omega) (by omega),hD]
    exact⟨_,e3,s,2*1+D-1,_,rfl, .cd s D 1 ⟨by omega,by omega,by omega,by omega,by omega,by omega⟩ (by omega),c3⟩
   by_cases h4:(s:Int)<4
   ·rw[if_pos h4,Option.bind_some,if_pos rfl]
    exact one e2 c2
   ·rw[if_neg h4]
    obtain⟨t,e3,b3,t0,t1,c3⟩:=dpick (d:=e2) c2 (n:=2) (by omega)
    rw[b3,Option.bind_some,Option.bind_some]
    dsimp only
    by_cases ht:t=0
    ·rw[if_pos (decide_eq_true ht)]
     exact one e3 c3
    ·rw[if_neg (by simp [ht])]
     exact⟨_,e3,s,2*2+1-1,_,rfl, .cd s 1 2 ⟨by omega,by omega,by omega,by omega,by omega,by omega⟩ (by omega),c3⟩
section
variable{p:Int}(hf:Fp p){y:Sch}{s k:Nat}{c:Nat→Nat}(h:SOK p y s k c){w:Nat}(hw:1≤w∧w≤64){R:List (List Int)}(hR:Rw p w R)(hn:1≤R.length∧R.length≤64){rows:List Int}(hr:∀x∈rows,0≤x∧x<(R.length:Int))(hm:1≤rows.length∧rows.length≤16)
def rw_(rows:List Int)(i:Nat):Nat:=(rows.getD i 0).toNat
include hr in
theorem Xpn{i:Nat}(hi:i<rows.length):lidx rows (i:Int)=some ((rw_ rows i:Nat):Int)∧rw_ rows i<R.length:=by
 have hm:rows.getD i 0∈rows:=by rw[List.getD_eq_getElem?_getD,List.getElem?_eq_getElem hi];exact List.getElem_mem _
 have:=hr _ hm
 refine⟨?_,by unfold rw_;omega⟩
 rw[Xbg 0 hi]
 unfold rw_
 congr 1;omega
include hr hm in
theorem Xoh:∀(d f i:Nat),i+d=rows.length→d<f→X5b rows (R.length:Int) f (i:Int)=some true
 |d,0,i,_,h=>by omega
 |0,f+1,i,hi,_=>by
  rw[X5b]
  unfold X8t
  rw[if_neg (by omega)]
 |d+1,f+1,i,hi,hfu=>by
  obtain⟨h1,h2⟩:=Xpn hr (i:=i) (by omega)
  rw[X5b]
  unfold X8t
  rw[if_pos (by omega),h1,Option.bind_some,if_neg (by omega),Option.bind_some,Option.bind_some,if_neg (by simp;omega),w64_id (by omega) (by omega),show(i:Int)+1=((i+1:Nat):Int) by omega]
  exact Xoh d f (i+1) (by omega) (by omega)
include hf h hw hR hn hr hm in
theorem q24_L{T:List Int}(hT:El p T)(hl:T.length≤16384)(hc:rows.length*c R.length≤T.length):∀(d f i:Nat)(out:List (List (List Int))),i+d=rows.length→d<f→out.length=i→(∀t,t<i→Good p w R y s k (rw_ rows t) (out.getD t []))→
  ∃out' t',X2r X2q (R.length:Int) rows p y.1 y.2.1 y.2.2.1 y.2.2.2 f out (i:Int) T ((i*c R.length:Nat):Int)=some (out',t',0)∧out'.length=rows.length∧∀t,t<rows.length→Good p w R y s k (rw_ rows t) (out'.getD t [])
 |d,0,i,_,_,h,_,_=>by omega
 |0,f+1,i,out,hi,_,ho,hg=>by
  rw[X2r]
  unfold X6w
  rw[if_neg (by omega)]
  have:i=rows.length:=by omega
  subst this
  exact⟨out,_,rfl,ho,hg⟩
 |d+1,f+1,i,out,hi,hfu,ho,hg=>by
  obtain⟨h1,h2⟩:=Xpn hr (i:=i) (by omega)
  have h3:(i+1)*c R.length≤rows.length*c R.length:=Nat.mul_le_mul_right _ (by omega)
  have h4:(i+1)*c R.length=i*c R.length+c R.length:=by rw[Nat.add_mul,Nat.one_mul]
  obtain⟨qs,q1,q2⟩:=SOK.queries hf hw hR hn h h2 hT hl (a:=i*c R.length) (by omega)
  rw[X2r]
  unfold X6w X9d
  rw[if_pos (by omega),h1,Option.bind_some,show max ((rw_ rows i:Nat):Int) 0=((rw_ rows i:Nat):Int) by omega,show((y.1,y.2.1,y.2.2.1,y.2.2.2):Sch)=y from rfl,q1,Option.bind_some,if_neg (by simp),Xe (by simp;omega),Option.bind_some,w64_id (by omega) (by omega),show(i:Int)+1=((i+1:Nat):Int) by omega, ← h4]
  refine q24_L hT hl hc d f (i+1) _ (by omega) (by omega) (by simp [ho]) (fun t ht=>?_)
  rw[List.getD_eq_getElem?_getD]
  by_cases hti:t<i
  ·rw[List.getElem?_append_left (by omega), ← List.getD_eq_getElem?_getD];exact hg t hti
  ·have:t=i:=by omega
   subst this
   rw[List.getElem?_append_right (by omega),ho,Nat.sub_self]
   exact q2
include hf h hw hR hn hr hm in
theorem queries24{T:List Int}(hT:El p T)(hl:T.length≤16384)(hc:rows.length*c R.length≤T.length):
  ∃out t',Xae y p (R.length:Int) rows (T,0)=some (out,t',0)∧out.length=rows.length∧∀t,t<rows.length→Good p w R y s k (rw_ rows t) (out.getD t []):=by
 have hv:Xct rows (R.length:Int)=some true:=by
  unfold Xct
  rw[if_neg (by omega)]
  exact Xoh hr hm rows.length big 0 (by omega) (by simp only [big];omega)
 unfold Xae
 rw[h.valid hf,Option.bind_some,if_neg (by decide),hv,Option.bind_some,if_neg (by decide)]
 have:=q24_L hf h hw hR hn hr hm hT hl hc rows.length big 0 [] (by omega) (by simp only [big];omega) rfl (fun t ht=>by omega)
 rw[Nat.zero_mul] at this
 exact this
def Dec(p:Int)(w:Nat)(R:List (List Int))(y:Sch)(rows:List Int)(Ls:List (List Ans)):Prop:=Ls.length=rows.length∧∀t,t<rows.length→∃wrong,X50 y p (w:Int) ((rw_ rows t:Nat):Int) (Ls.getD t [])=some ((gr R (rw_ rows t),wrong),0)
include hr hm in
theorem d24_L5(kx:Int→Int→Int→Int→Int→Option ((List (Int×(List Int)×(List Int)))×Int))(z1 z2 z3 z4 z5:Int):∀(d f i:Nat),i+d=rows.length→d<f→X4q kx rows z1 z2 z3 z4 z5 f (i:Int)=kx z1 z2 z3 z4 z5
 |d,0,i,_,h=>by omega
 |0,f+1,i,hi,_=>by
  rw[X4q]
  unfold X87
  rw[if_neg (by omega)]
 |d+1,f+1,i,hi,hfu=>by
  obtain⟨h1,h2⟩:=Xpn hr (i:=i) (by omega)
  rw[X4q]
  unfold X87
  rw[if_pos (by omega),h1,Option.bind_some,if_neg (by omega),w64_id (by omega) (by omega),show(i:Int)+1=((i+1:Nat):Int) by omega]
  exact d24_L5 kx z1 z2 z3 z4 z5 d f (i+1) (by omega) (by omega)
include hr hm in
theorem d24_L3{Ls:List (List Ans)}(hD:Dec p w R y rows Ls):∀(d f i:Nat)(out:List (Int×(List Int)×(List Int))),i+d=rows.length→d<f→out.length=i→(∀t,t<i→∃wr,out[t]?=some (0,gr R (rw_ rows t),wr))→
  ∃o,X2i (w:Int) rows Ls p y.1 y.2.1 y.2.2.1 y.2.2.2 f out (i:Int)=some (o,0)∧o.length=rows.length∧∀t,t<rows.length→∃wr,o[t]?=some (0,gr R (rw_ rows t),wr)
 |d,0,i,_,_,h,_,_=>by omega
 |0,f+1,i,out,hi,_,ho,hg=>by
  rw[X2i]
  unfold X86
  rw[if_neg (by omega)]
  have:i=rows.length:=by omega
  subst this
  exact⟨out,rfl,ho,hg⟩
 |d+1,f+1,i,out,hi,hfu,ho,hg=>by
  obtain⟨h1,h2⟩:=Xpn hr (i:=i) (by omega)
  obtain⟨wrong,hdec⟩:=hD.2 i (by omega)
  have hl:=hD.1
  rw[X2i]
  unfold X86 Xaq Xap
  rw[if_pos (by omega),h1,Option.bind_some,Xbg [] (by omega),Option.bind_some,show max ((rw_ rows i:Nat):Int) 0=((rw_ rows i:Nat):Int) by omega,show((y.1,y.2.1,y.2.2.1,y.2.2.2):Sch)=y from rfl,hdec,Option.bind_some,Option.bind_some,if_neg (by omega),Xe (by simp;omega),Option.bind_some,w64_id (by omega) (by omega),show(i:Int)+1=((i+1:Nat):Int) by omega]
  refine d24_L3 hD d f (i+1) _ (by omega) (by omega) (by simp [ho]) (fun t ht=>?_)
  by_cases hti:t<i
  ·rw[List.getElem?_append_left (by omega)];exact hg t hti
  ·have:t=i:=by omega
   subst this
   rw[List.getElem?_append_right (by omega),ho,Nat.sub_self]
   exact⟨wrong,rfl⟩
include hf h hr hm in
theorem decode24{Ls:List (List Ans)}(hD:Dec p w R y rows Ls):∃o,Xbx y p (w:Int) rows Ls=some (o,0)∧o.length=rows.length∧∀t,t<rows.length→∃wr,o[t]?=some (0,gr R (rw_ rows t),wr):=by
 unfold Xbx
 have l5:=d24_L5 hr hm (X3f (w:Int) rows Ls) p y.1 y.2.1 y.2.2.1 y.2.2.2 rows.length big 0 (by omega) (by simp only [big];omega)
 rw[show((0:Nat):Int)=0 from rfl] at l5
 rw[h.valid hf,Option.bind_some,if_neg (by decide),if_neg (by omega),l5]
 unfold X3f
 have hl:=hD.1
 rw[if_neg (by omega)]
 exact d24_L3 hr hm hD rows.length big 0 [] (by omega) (by simp only [big];omega) rfl (fun t ht=>by omega)
include hn in
theorem l4_ok(kx:(List (List Ans))→(List Int)→Int→Int→Int→Int→Int→Int→Int→Int→Int→Int→Int→Option Bool){wr:Nat}(hwr:wr≤1)(hwk:wr=0∨k+2≤s)(hp2:p=257)(z1 z2:Int){qs:List (List (List Int))}(hq:qs.length=rows.length)(hm:rows.length≤16)(hg:∀t,t<rows.length→Good p w R y s k (rw_ rows t) (qs.getD t [])):
  ∀(xs:List (List (List Int)))(i:Nat)(Ls:List (List Ans))(d:List Int×Int),qs.drop i=xs→DiceOK d→Ls.length=i→i≤rows.length→(∀t,t<i→∃wrong,X50 y p (w:Int) ((rw_ rows t:Nat):Int) (Ls.getD t [])=some ((gr R (rw_ rows t),wrong),0))→
  ∃(Ls':List (List Ans))(e:List Int×Int),X1w kx (wr:Int) y.1 y.2.1 y.2.2.1 y.2.2.2 1 p (w:Int) R z1 z2 xs Ls d.1 d.2=kx Ls' e.1 e.2 y.1 y.2.1 y.2.2.1 y.2.2.2 1 p (w:Int) 257 z1 z2∧Dec p w R y rows Ls'
 | [],i,Ls,d,hd,_,hL,hi,hI=>by
  have:=List.drop_eq_nil_iff.1 hd
  have:i=rows.length:=by omega
  subst this
  exact⟨Ls,d,rfl,hL,hI⟩
 |q::xs,i,Ls,d,hd,hdc,hL,hi,hI=>by
  have hlt:i<qs.length:=by
   rcases Nat.lt_or_ge i qs.length with h |h
   ·exact h
   ·rw[List.drop_eq_nil_of_le h] at hd;cases hd
  have hqi:qs.getD i []=q:=by
   rw[List.drop_eq_getElem_cons hlt] at hd
   rw[List.getD_eq_getElem?_getD,List.getElem?_eq_getElem hlt];exact(List.cons.inj hd).1
  have hgi:=hg i (by omega)
  rw[hqi] at hgi
  obtain⟨L,liars,e,wrong,a1,a2,a3⟩:=hgi wr hwr hwk d hdc
  show ∃(Ls':List (List Ans))(e:List Int×Int),X43 kx (wr:Int) y.1 y.2.1 y.2.2.1 y.2.2.2 1 p (w:Int) R z1 z2 (X1w kx (wr:Int) y.1 y.2.1 y.2.2.1 y.2.2.2 1 p (w:Int) R z1 z2 xs) q Ls d.1 d.2=_∧_
  unfold X43
  rw[show((y.1,y.2.1,y.2.2.1,y.2.2.2):Sch)=y from rfl,show((d.1,d.2):List Int×Int)=d from rfl,a1,Option.bind_some,Xe (by simp;omega),Option.bind_some]
  refine l4_ok kx hwr hwk hp2 z1 z2 hq hm hg xs (i+1) (Ls++[L]) e (by rw[← List.drop_drop,hd];rfl) a2 (by simp [hL]) (by omega) (fun t ht=>?_)
  rw[List.getD_eq_getElem?_getD]
  by_cases hti:t<i
  ·rw[List.getElem?_append_left (by omega), ← List.getD_eq_getElem?_getD];exact hI t hti
  ·have:t=i:=by omega
   subst this
   rw[List.getElem?_append_right (by omega),hL,Nat.sub_self]
   exact⟨wrong,a3⟩
end
end Go.Proofs.YtmfppphlhgneeaaGreat.Hh
end

section
namespace Go.Proofs.YtmfppphlhgneeaaGreat
def stp(b:Int):Nat→Int→Nat
 |0,_=>1
 |k+1,n=>if n≤b then 1 else 1+stp b k ((n+b-1)/b)
def st(b n:Int):Nat:=stp b 256 n
end Go.Proofs.YtmfppphlhgneeaaGreat
end

section
namespace Go.Proofs.YtmfppphlhgneeaaGreat
abbrev gd(l:List ByteArray)(i:Nat):ByteArray:=l.getD i ByteArray.empty
def okAt(l:List ByteArray)(i:Nat):Prop:=(1≤(gd l i).size∧(gd l i).size≤32)∧(i=0∨sLt (gd l (i-1)) (gd l i))
instance (l:List ByteArray) (i:Nat):Decidable (okAt l i):=by unfold okAt;infer_instance
def AscF(l:List ByteArray)(i:Nat):Prop:=∀j,j<l.length→i≤j→okAt l j
instance (l:List ByteArray) (i:Nat):Decidable (AscF l i):=by unfold AscF;infer_instance
def AscP(l:List ByteArray):Prop:=∀j,j<l.length→okAt l j
instance (l:List ByteArray):Decidable (AscP l):=by unfold AscP;infer_instance
def KeyP(w:ByteArray):Prop:=1≤w.size∧w.size≤32
instance (w:ByteArray):Decidable (KeyP w):=by unfold KeyP;infer_instance
theorem nb_t{p:Prop}[Decidable p](h:p):¬((!decide p)=true):=by simp [h]
theorem nb_f{p:Prop}[Decidable p](h:¬p):(!decide p)=true:=by simp [h]
theorem Xoi(w:ByteArray):Xbl w=some (decide (KeyP w)):=by
 unfold Xbl;exact congrArg some (decide_eq_decide.2 (by unfold KeyP;omega))
theorem Xoj(w:ByteArray):Xck w=some (decide (KeyP w)):=by
 unfold Xck;exact congrArg some (decide_eq_decide.2 (by unfold KeyP;omega))
theorem Xok{l xs:List ByteArray}{x:ByteArray}{i:Nat}(h:l.drop i=x::xs):i<l.length∧x=gd l i:=by
 have h1:=X9 h
 have h2:=X2 h
 rw[Xbg .empty (by omega)] at h2
 exact⟨by omega,(Option.some.inj h2).symm⟩
theorem Xun{z:List ByteArray}(hz:z.length≤10000000):∀(xs:List ByteArray)(i:Nat),z.drop i=xs→X4k z xs i=some (decide (AscF z i))
 | [],i,h=>by
  have:=X5 h
  show some true=_
  congr 1
  exact(decide_eq_true (fun j h1 h2=>by omega)).symm
 |x::xs,i,h=>by
  obtain⟨hi,rfl⟩:=Xok h
  show X7m z (X4k z xs (i+1)) (gd z i) i=_
  unfold X7m
  rw[Xun hz xs (i+1) (X3 h),Xoi]
  simp only [Option.bind_some]
  have e2:(if(0<(i:Int)) then((lidx z (w64 ((i:Int)-1))).bind fun u127=>some (decide (¬sLt u127 (gd z i)))) else some false)=some (decide (i≠0∧¬sLt (gd z (i-1)) (gd z i))):=by
   by_cases h0:i=0
   ·rw[if_neg (by omega)];simp [h0]
   ·rw[if_pos (by omega),w64_id (by omega) (by omega),show((i:Int)-1)=((i-1:Nat):Int) by omega,Xbg .empty (by omega)]
    simp [h0]
  rw[e2]
  simp only [Option.bind_some]
  have e3:(if(!decide (KeyP (gd z i)))=true then some true else some (decide (i≠0∧¬sLt (gd z (i-1)) (gd z i))))=some (decide (¬okAt z i)):=by
   by_cases hk:KeyP (gd z i)
   ·rw[if_neg (nb_t hk)]
    congr 1
    rw[decide_eq_decide]
    unfold okAt
    constructor
    ·rintro⟨h1,h2⟩ ⟨_,h3 |h3⟩
     ·exact h1 h3
     ·exact h2 h3
    ·intro h1
     exact⟨fun h2=>h1 ⟨hk, .inl h2⟩,fun h2=>h1 ⟨hk, .inr h2⟩⟩
   ·rw[if_pos (nb_f hk)]
    congr 1
    exact(decide_eq_true (p:=¬okAt z i) (fun h1=>hk h1.1)).symm
  rw[e3]
  simp only [Option.bind_some]
  by_cases ok:okAt z i
  ·rw[if_neg (by simp [ok])]
   congr 1
   rw[decide_eq_decide]
   constructor
   ·intro h1 j h2 h3
    rcases Nat.eq_or_lt_of_le h3 with rfl |h4
    ·exact ok
    ·exact h1 j h2 h4
   ·exact fun h1 j h2 h3=>h1 j h2 (by omega)
  ·rw[if_pos (by simp [ok])]
   congr 1
   exact(decide_eq_false (fun h1=>ok (h1 i hi (Nat.le_refl _)))).symm
theorem Xol{z:List ByteArray}(hz:z.length≤10000000):X9r z=some (decide (AscP z)):=by
 unfold X9r
 rw[Xun hz z 0 rfl]
 congr 1
 rw[decide_eq_decide]
 exact⟨fun h j h1=>h j h1 (by omega),fun h j h1 _=>h j h1⟩
def FenP(f:Int×List ByteArray):Prop:=((2≤f.1∧f.1≤8)∧1≤f.2.length∧f.2.length≤256)∧AscP f.2
instance (f:Int×List ByteArray):Decidable (FenP f):=by unfold FenP;infer_instance
theorem Xqm{l:List ByteArray}(h:AscP l):∀{j i:Nat},i<j→j<l.length→sLt (gd l i) (gd l j)
 |0,i,h0,_=>by omega
 |j+1,i,h0,h1=>by
  rcases(h (j+1) h1).2 with h2 |h2
  ·omega
  ·simp only [Nat.add_sub_cancel] at h2
   rcases Nat.lt_or_ge i j with h3 |h3
   ·exact Xk8 (Xqm h h3 (by omega)) h2
   ·obtain rfl:i=j:=by omega
    exact h2
def lastN(l:List ByteArray)(w:ByteArray):Nat→Nat
 |0=>0
 |q+1=>if ¬sLt w (gd l q) then q else lastN l w q
end Go.Proofs.YtmfppphlhgneeaaGreat
end

section
namespace Go.Proofs.YtmfppphlhgneeaaGreat
def chN(L n:Nat):Nat:=(L+n-1)/n
def up(n:Nat)(l:List ByteArray):List ByteArray:=(List.range (chN l.length n)).map fun k=>gd l (k*n)
abbrev gl(L:List (List ByteArray))(i:Nat):List ByteArray:=L.getD i []
end Go.Proofs.YtmfppphlhgneeaaGreat
end

section
namespace Go.Proofs.YtmfppphlhgneeaaGreat
def pos(L:List (List ByteArray))(w:ByteArray)(m:Nat):Nat:=if L.length≤m then 0 else lastN (gl L m) w (gl L m).length
def bk(L:List (List ByteArray)):Nat→List (Int×List ByteArray)
 |0=>[]
 |m+1=>((m:Int),gl L m)::bk L m
end Go.Proofs.YtmfppphlhgneeaaGreat
end

section
namespace Go.Proofs.YtmfppphlhgneeaaGreat
set_option linter.unusedVariables false
set_option maxRecDepth 100000
theorem lmk_ok{α:Type}{n:Int}{z:α}(h0:0≤n)(h1:n≤16777216):lmk n z=some (List.replicate n.toNat z):=by unfold lmk;rw[if_pos ⟨h0,h1⟩]
theorem sane35:Xf2=some true:=by kernel_rfl
end Go.Proofs.YtmfppphlhgneeaaGreat
end

section
namespace Go.Proofs.YtmfppphlhgneeaaGreat
set_option linter.unusedVariables false
def at'{α:Type}(d:α)(l:List α)(b:Int):α:=l.getD b.toNat d
theorem X9z{α:Type}(d:α){l:List α}{b:Int}(h0:0≤b)(h1:b<l.length):lidx l b=some (at' d l b):=Xec d h0 h1
theorem X68{α:Type}(d:α){l:List α}{b c:Int}{y:α}(h0:0≤b)(h1:b<l.length)(hc:0≤c):at' d (l.set b.toNat y) c=if c=b then y else at' d l c:=by
 unfold at'
 rw[List.getD_eq_getElem?_getD,List.getElem?_set]
 by_cases h:c=b
 ·subst h;rw[if_pos rfl,if_pos rfl,if_pos (by omega)];rfl
 ·rw[if_neg (by omega),if_neg h,List.getD_eq_getElem?_getD]
theorem Xc1{α:Type}(d:α){l:List α}{b:Int}(h0:0≤b)(h1:b<l.length):at' d l b∈l:=by
 unfold at'
 rw[List.getD_eq_getElem?_getD,List.getElem?_eq_getElem (by omega)]
 exact List.getElem_mem _
theorem Xhm{α:Type}(d:α){l:List α}{x:α}(h:x∈l):∃b:Int,0≤b∧b<l.length∧at' d l b=x:=by
 obtain⟨i,hi,rfl⟩:=List.getElem_of_mem h
 refine⟨i,by omega,by omega,?_⟩
 unfold at'
 rw[Int.toNat_natCast,List.getD_eq_getElem?_getD,List.getElem?_eq_getElem hi];rfl
theorem Xit{α:Type}[DecidableEq α](d j y:α):∀(l:List α)(n:Nat),n<l.length→(l.set n y).count j+(if l.getD n d=j then 1 else 0)=l.count j+(if y=j then 1 else 0)
 | [],n,h=>by simp at h
 |x::l,0,h=>by
  simp only [List.set_cons_zero,List.getD_cons_zero,List.count_cons,beq_iff_eq]
  omega
 |x::l,n+1,h=>by
  have:=Xit d j y l n (by simpa using h)
  simp only [List.set_cons_succ,List.getD_cons_succ,List.count_cons]
  omega
theorem Xdt{α:Type}[DecidableEq α](d:α)(j y:α){l:List α}{b:Int}(h0:0≤b)(h1:b<l.length):(l.set b.toNat y).count j+(if at' d l b=j then 1 else 0)=l.count j+(if y=j then 1 else 0):=
 Xit d j y l b.toNat (by omega)
theorem Xdj{l:List Bool}{b:Int}(h0:0≤b)(h1:b<l.length)(h:at' false l b=false):(l.set b.toNat true).count false+1=l.count false:=by
 have:=Xdt false false true h0 h1
 rw[h] at this
 simpa using this
theorem Xhn{s t:List Bool}(hl:s.length=t.length)(h:∀b:Int,0≤b→b<s.length→at' false s b=true→at' false t b=true):t.count false≤s.count false:=by
 induction s generalizing t with
 |nil=>cases t with
  |nil=>simp
  |cons _ _=>simp at hl
 |cons x s ih=>
  cases t with
  |nil=>simp at hl
  |cons y t=>
   simp only [List.length_cons,Nat.add_right_cancel_iff] at hl
   have h1:=ih hl fun b h0 hb ht=>by
    have:=h (b+1) (by omega) (by simp;omega)
    have e:(b+1).toNat=b.toNat+1:=by omega
    simp only [at',e,List.getD_cons_succ] at this
    exact this ht
   have h2:=h 0 (by omega) (by simp only [List.length_cons];omega)
   simp only [at',Int.toNat_zero,List.getD_cons_zero] at h2
   simp only [List.count_cons]
   cases x<;>cases y
   ·simp;omega
   ·simp;omega
   ·exact absurd (h2 rfl) (by simp)
   ·simp;omega
def HomesOK(B:Int)(homes:List (List Int)):Prop:=∀l∈homes,∀b∈l,0≤b∧b<B
def BkOK(B:Int)(homes:List (List Int))(bk:List Int):Prop:=(bk.length:Int)=B∧∀v∈bk, -1≤v∧v<homes.length
abbrev Bk:=List Int
structure Won(B:Int)(homes:List (List Int))(fixed seen:List Bool)(i:Int)(bk bk':Bk):Prop where
 ok:BkOK B homes bk'
 still:∀b,0≤b→b<B→(at' false seen b=true∨at' false fixed b=true)→at' (-1) bk' b=at' (-1) bk b
 kept:∀b,0≤b→b<B→0≤at' (-1) bk b→0≤at' (-1) bk' b
 edge:∀b,0≤b→b<B→at' (-1) bk' b=at' (-1) bk b∨(0≤at' (-1) bk' b∧b∈at' [] homes (at' (-1) bk' b))
 count:∀j,0≤j→bk'.count j=bk.count j+if i=j then 1 else 0
structure Lost(B:Int)(homes:List (List Int))(fixed seen seen':List Bool)(hs:List Int)(bk:Bk):Prop where
 all:∀b∈hs,at' false fixed b=true∨at' false seen' b=true
 closed:∀b,0≤b→b<B→at' false seen' b=true→at' false seen b=false→0≤at' (-1) bk b∧at' false fixed b=false∧∀c∈at' [] homes (at' (-1) bk b),at' false fixed c=true∨at' false seen' c=true
def SeenLe(B:Int)(s t:List Bool):Prop:=∀b,0≤b→b<B→at' false s b=true→at' false t b=true
theorem Xiu(B:Int)(homes:List (List Int))(fixed:List Bool)(hh:HomesOK B homes)(hf:(fixed.length:Int)=B)(i:Int)(hi:0≤i∧i<homes.length)(m:Nat)
  (ih:∀(i:Int)(seen:List Bool)(bk:Bk),0≤i→i<homes.length→(seen.length:Int)=B→BkOK B homes bk→seen.count false<m→∃r bk' seen',Xd m (homes,bk,fixed) i seen=some (r,bk',seen')∧(seen'.length:Int)=B∧SeenLe B seen seen'∧
   (r=true→Won B homes fixed seen i bk bk')∧(r=false→bk'=bk∧Lost B homes fixed seen seen' (at' [] homes i) bk)):
  ∀(hs:List Int)(seen:List Bool)(bk:Bk),(∀b∈hs,b∈at' [] homes i)→(seen.length:Int)=B→BkOK B homes bk→seen.count false<m+1→
   ∃r bk' seen',Xk (Xd m) i homes fixed hs seen bk=some (r,bk',seen')∧(seen'.length:Int)=B∧SeenLe B seen seen'∧
    (r=true→Won B homes fixed seen i bk bk')∧(r=false→bk'=bk∧Lost B homes fixed seen seen' hs bk)
 | [],seen,bk,_,hs,hb,_=>⟨false,bk,seen,rfl,hs,fun _ _ _ h=>h,by simp,fun _=>⟨rfl,by simp,fun b _ _ h1 h2=>by rw[h1] at h2;cases h2⟩⟩
 |b::hs,seen,bk,hm,hs',hb,hc=>by
  have hbi:b∈at' [] homes i:=hm b List.mem_cons_self
  obtain⟨b0,bB⟩:=hh _ (Xc1 [] hi.1 hi.2) b hbi
  have ih2:=fun seen bk=>Xiu B homes fixed hh hf i hi m ih hs seen bk (fun c h=>hm c (List.mem_cons_of_mem _ h))
  rw[Xk]
  unfold X6j
  rw[X9z false b0 (by omega),X9z false b0 (by omega)]
  simp only [Option.bind_some]
  have hskip:(at' false seen b=true∨at' false fixed b=true)→∃r bk' seen',Xk (Xd m) i homes fixed hs seen bk=some (r,bk',seen')∧(seen'.length:Int)=B∧SeenLe B seen seen'∧
    (r=true→Won B homes fixed seen i bk bk')∧(r=false→bk'=bk∧Lost B homes fixed seen seen' (b::hs) bk):=fun hsf=>by
   obtain⟨r,bk',seen',e,h1,h2,h3,h4⟩:=ih2 seen bk hs' hb hc
   refine⟨r,bk',seen',e,h1,h2,h3,fun hr=>⟨(h4 hr).1,fun c hc'=>?_,(h4 hr).2.closed⟩⟩
   rcases List.mem_cons.1 hc' with rfl |hc'
   ·rcases hsf with h |h
    ·exact .inr (h2 _ b0 bB h)
    ·exact .inl h
   ·exact(h4 hr).2.all c hc'
  by_cases h1:at' false seen b=true
  ·rw[if_pos h1];simp only [Option.bind_some,if_true];exact hskip (.inl h1)
  ·rw[if_neg h1]
   simp only [Option.bind_some]
   by_cases h2:at' false fixed b=true
   ·rw[if_pos h2];exact hskip (.inr h2)
   ·rw[if_neg h2,X9z (-1) b0 (by rw[hb.1];exact bB)]
    simp only [Option.bind_some]
    have h1':at' false seen b=false:=by simpa using h1
    have h2':at' false fixed b=false:=by simpa using h2
    have hbl:b<bk.length:=by rw[hb.1];exact bB
    by_cases h3:at' (-1) bk b<0
    ·rw[if_pos h3,X67 b0 hbl]
     simp only [Option.bind_some]
     refine⟨true,_,seen,rfl,hs',fun _ _ _ h=>h,fun _=>⟨⟨by simpa using hb.1,fun v hv=>?_⟩,fun c c0 cB hc'=>?_,fun c c0 cB hc'=>?_,fun c c0 cB=>?_,fun j hj=>?_⟩,by simp⟩
     ·rcases List.mem_or_eq_of_mem_set hv with h |rfl
      ·exact hb.2 v h
      ·omega
     ·rw[X68 (-1) b0 hbl c0]
      split
      ·rename_i e;subst e;rcases hc' with h |h
       ·rw[h1'] at h;cases h
       ·rw[h2'] at h;cases h
      ·rfl
     ·rw[X68 (-1) b0 hbl c0];split
      ·exact hi.1
      ·exact hc'
     ·rw[X68 (-1) b0 hbl c0];split
      ·rename_i e;subst e;exact .inr ⟨hi.1,hbi⟩
      ·exact .inl rfl
     ·have:=Xdt (-1) j i b0 hbl
      rw[if_neg (by omega:¬at' (-1) bk b=j)] at this
      simpa using this
    ·rw[if_neg h3,X67 b0 (by omega)]
     simp only [Option.bind_some]
     have hlt:b<seen.length:=by omega
     have ho:=hb.2 _ (Xc1 (-1) b0 hbl)
     obtain⟨r,bk1,seen1,e1,l1,m1,w1,f1⟩:=ih (at' (-1) bk b) (seen.set b.toNat true) bk (by omega) ho.2 (by simpa using hs') hb (by have:=Xdj b0 hlt h1';omega)
     rw[e1]
     simp only [Option.bind_some]
     have hsb:at' false (seen.set b.toNat true) b=true:=by rw[X68 false b0 hlt b0,if_pos rfl]
     have hle:SeenLe B seen (seen.set b.toNat true):=fun c c0 cB h=>by rw[X68 false b0 hlt c0];split;rfl;exact h
     cases r with
     |true=>
      have hw:=w1 rfl
      have hb1:b<bk1.length:=by rw[hw.ok.1];exact bB
      rw[if_pos rfl,X9z (-1) b0 hb1]
      simp only [Option.bind_some]
      rw[X67 b0 hb1]
      simp only [Option.bind_some]
      have hst:at' (-1) bk1 b=at' (-1) bk b:=hw.still b b0 bB (.inl hsb)
      refine⟨true,_,seen1,rfl,l1,fun c c0 cB h=>m1 c c0 cB (hle c c0 cB h),fun _=>⟨⟨by simpa using hw.ok.1,fun v hv=>?_⟩,fun c c0 cB hc'=>?_,fun c c0 cB hc'=>?_,fun c c0 cB=>?_,fun j hj=>?_⟩,by simp⟩
      ·rcases List.mem_or_eq_of_mem_set hv with h |rfl
       ·exact hw.ok.2 v h
       ·omega
      ·rw[X68 (-1) b0 hb1 c0]
       split
       ·rename_i e;subst e;rcases hc' with h |h
        ·rw[h1'] at h;cases h
        ·rw[h2'] at h;cases h
       ·exact hw.still c c0 cB (hc'.imp (hle c c0 cB) id)
      ·rw[X68 (-1) b0 hb1 c0];split
       ·exact hi.1
       ·exact hw.kept c c0 cB hc'
      ·rw[X68 (-1) b0 hb1 c0];split
       ·rename_i e;subst e;exact .inr ⟨hi.1,hbi⟩
       ·exact hw.edge c c0 cB
      ·have h5:=Xdt (-1) j i b0 hb1
       have h6:=hw.count j hj
       rw[hst] at h5
       omega
     |false=>
      rw[if_neg (by simp)]
      obtain⟨rfl,hlost⟩:=f1 rfl
      have hcle:=Xhn (s:=seen.set b.toNat true) (t:=seen1) (by rw[List.length_set];omega) (fun c c0 cl h=>m1 c c0 (by simp at cl;omega) h)
      have hcl:=Xdj b0 hlt h1'
      obtain⟨r,bk2,seen2,e2,l2,m2,w2,f2⟩:=ih2 seen1 bk1 l1 hb (by omega)
      refine⟨r,bk2,seen2,e2,l2,fun c c0 cB h=>m2 c c0 cB (m1 c c0 cB (hle c c0 cB h)),fun hr=>?_,fun hr=>?_⟩
      ·have hw:=w2 hr
       exact⟨hw.ok,fun c c0 cB hc'=>hw.still c c0 cB (hc'.imp (fun h=>m1 c c0 cB (hle c c0 cB h)) id),hw.kept,hw.edge,hw.count⟩
      ·obtain⟨rfl,hl2⟩:=f2 hr
       refine⟨rfl,fun c hc'=>?_,fun c c0 cB hs2 hs0=>?_⟩
       ·rcases List.mem_cons.1 hc' with rfl |hc'
        ·exact .inr (m2 _ b0 bB (m1 _ b0 bB hsb))
        ·exact hl2.all c hc'
       ·have hup:∀x∈at' [] homes (at' (-1) bk2 c),0≤at' (-1) bk2 c→(at' false fixed x=true∨at' false seen1 x=true)→at' false fixed x=true∨at' false seen2 x=true:=fun x hx h0 h=>by
         have hv:=hb.2 _ (Xc1 (-1) c0 (by rw[hb.1];exact cB))
         obtain⟨x0,xB⟩:=hh _ (Xc1 [] h0 hv.2) x hx
         exact h.imp id (m2 x x0 xB)
        by_cases hs1:at' false seen1 c=true
        ·by_cases hcb:c=b
         ·subst hcb
          refine⟨by omega,h2',fun x hx=>hup x hx (by omega) (hlost.all x hx)⟩
         ·have hs3:at' false (seen.set b.toNat true) c=false:=by rw[X68 false b0 hlt c0,if_neg hcb];exact hs0
          obtain⟨g1,g2,g3⟩:=hlost.closed c c0 cB hs1 hs3
          exact⟨g1,g2,fun x hx=>hup x hx g1 (g3 x hx)⟩
        ·exact hl2.closed c c0 cB hs2 (by simpa using hs1)
theorem Xjz(B:Int)(homes:List (List Int))(fixed:List Bool)(hh:HomesOK B homes)(hf:(fixed.length:Int)=B):∀(m:Nat)(i:Int)(seen:List Bool)(bk:Bk),0≤i→i<homes.length→(seen.length:Int)=B→BkOK B homes bk→seen.count false<m→
  ∃r bk' seen',Xd m (homes,bk,fixed) i seen=some (r,bk',seen')∧(seen'.length:Int)=B∧SeenLe B seen seen'∧(r=true→Won B homes fixed seen i bk bk')∧(r=false→bk'=bk∧Lost B homes fixed seen seen' (at' [] homes i) bk)
 |0,i,seen,bk,_,_,_,_,h=>by omega
 |m+1,i,seen,bk,h0,h1,hs,hb,hc=>by
  rw[Xd]
  unfold X6k
  rw[X9z [] h0 h1]
  simp only [Option.bind_some]
  exact Xiu B homes fixed hh hf i ⟨h0,h1⟩ m (Xjz B homes fixed hh hf m) _ seen bk (fun _ h=>h) hs hb hc
end Go.Proofs.YtmfppphlhgneeaaGreat
namespace Go.Proofs.YtmfppphlhgneeaaGreat
set_option linter.unusedVariables false
theorem pig:∀{l m:List Int},l.Nodup→(∀x∈l,x∈m)→l.length≤m.length
 | [],m,_,_=>by simp
 |x::l,m,hn,hs=>by
  obtain⟨h1,h2⟩:=List.nodup_cons.1 hn
  have hx:=hs x List.mem_cons_self
  have h3:=pig (l:=l) (m:=m.erase x) h2 fun y hy=>by
   have hne:y≠x:=fun e=>h1 (e▸hy)
   exact(List.mem_erase_of_ne hne).2 (hs y (List.mem_cons_of_mem _ hy))
  have h4:=List.length_erase_of_mem hx
  have h5:0<m.length:=List.length_pos_of_mem hx
  simp only [List.length_cons];omega
theorem Xf1{α β:Type}{f:α→β}:∀{l:List α},l.Nodup→(∀x∈l,∀y∈l,f x=f y→x=y)→(l.map f).Nodup
 | [],_,_=>by simp
 |x::l,hn,hi=>by
  obtain⟨h1,h2⟩:=List.nodup_cons.1 hn
  rw[List.map_cons,List.nodup_cons]
  refine⟨fun hm=>?_,Xf1 h2 fun a ha b hb=>hi a (List.mem_cons_of_mem _ ha) b (List.mem_cons_of_mem _ hb)⟩
  obtain⟨y,hy,e⟩:=List.mem_map.1 hm
  have:=hi y (List.mem_cons_of_mem _ hy) x List.mem_cons_self e
  exact h1 (this▸hy)
theorem Xk0{l:List Int}{b c j:Int}(hb:0≤b∧b<l.length)(hc:0≤c∧c<l.length)(h1:at' (-1) l b=j)(h2:at' (-1) l c=j)(hne:b≠c):2≤l.count j:=by
 have h3:=Xdt (-1) j (j+1) hb.1 hb.2
 rw[if_pos h1,if_neg (by omega)] at h3
 have h4:at' (-1) (l.set b.toNat (j+1)) c=j:=by rw[X68 (-1) hb.1 hb.2 hc.1,if_neg (fun e=>hne e.symm)];exact h2
 have h5:=Xc1 (-1) (l:=l.set b.toNat (j+1)) hc.1 (by simpa using hc.2)
 rw[h4] at h5
 have:=List.count_pos_iff.2 h5
 omega
theorem Xl3{l:List Int}{b j:Int}(hb:0≤b∧b<l.length)(h1:at' (-1) l b=j):1≤l.count j:=List.count_pos_iff.2 (h1▸Xc1 (-1) hb.1 hb.2)
def Places(homes:List (List Int))(fixed:List Bool)(a:Int)(f:Int→Int):Prop:=
 (∀j,a≤j→j<homes.length→f j∈at' [] homes j∧at' false fixed (f j)=false)∧∀j k,a≤j→j<homes.length→a≤k→k<homes.length→f j=f k→j=k
def Placeable(homes:List (List Int))(fixed:List Bool)(a:Int):Prop:=∃f,Places homes fixed a f
structure Stand(B:Int)(homes:List (List Int))(fixed:List Bool)(a i:Int)(bk:Bk):Prop where
 ok:BkOK B homes bk
 le:∀j,0≤j→bk.count j≤1
 one:∀j,a≤j→j<i→bk.count j=1
 none:∀j,i≤j→bk.count j=0
 free:∀b,0≤b→b<B→at' false fixed b=false→0≤at' (-1) bk b→a≤at' (-1) bk b∧b∈at' [] homes (at' (-1) bk b)
 fix:∀b,0≤b→b<B→at' false fixed b=true→at' (-1) bk b<a
theorem Stand.places{B:Int}{homes:List (List Int)}{fixed:List Bool}{a:Int}{bk:Bk}(ha:0≤a)(h:Stand B homes fixed a homes.length bk):Placeable homes fixed a:=by
 classical
 have hex:∀j,a≤j→j<homes.length→∃b,0≤b∧b<B∧at' (-1) bk b=j:=fun j h1 h2=>by
  have hm:j∈bk:=List.count_pos_iff.1 (by rw[h.one j h1 h2];omega)
  obtain⟨b,h3,h4,h5⟩:=Xhm (-1) hm
  exact⟨b,h3,by rw[← h.ok.1];exact h4,h5⟩
 refine⟨fun j=>if hj:∃b,0≤b∧b<B∧at' (-1) bk b=j then hj.choose else 0,fun j h1 h2=>?_,fun j k h1 h2 h3 h4 e=>?_⟩
 ·have hj:=hex j h1 h2
  have:=hj.choose_spec
  simp only [dif_pos hj]
  obtain⟨b0,bB,hb⟩:=this
  by_cases hfx:at' false fixed hj.choose=true
  ·have:=h.fix _ b0 bB hfx;omega
  ·have hfx':at' false fixed hj.choose=false:=by simpa using hfx
   refine⟨?_,hfx'⟩
   have:=(h.free _ b0 bB hfx' (by omega)).2
   rwa [hb] at this
 ·have hj:=hex j h1 h2
  have hk:=hex k h3 h4
  simp only [dif_pos hj,dif_pos hk] at e
  rw[← hj.choose_spec.2.2, ← hk.choose_spec.2.2,e]
theorem Xuo{B:Int}{homes:List (List Int)}{fixed seen seen':List Bool}{a i:Int}{bk:Bk}(hh:HomesOK B homes)(hs:Stand B homes fixed a i bk)(ha:0≤a∧a≤i)(hi:i<homes.length)(h0:∀b,0≤b→b<B→at' false seen b=false)
  (hl:Lost B homes fixed seen seen' (at' [] homes i) bk):¬Placeable homes fixed a:=by
 rintro⟨f,hf1,hf2⟩
 let R:List Int:=((List.range B.toNat).map fun(b:Nat)=>(b:Int)).filter fun b=>at' false seen' b
 have hR:∀b,b∈R↔(0≤b∧b<B)∧at' false seen' b=true:=fun b=>by
  simp only [R,List.mem_filter,List.mem_map,List.mem_range]
  constructor
  ·rintro⟨⟨n,hn,rfl⟩,h⟩;exact⟨⟨by omega,by omega⟩,h⟩
  ·rintro⟨⟨h1,h2⟩,h⟩;exact⟨⟨b.toNat,by omega,by omega⟩,h⟩
 have hRn:R.Nodup:=List.Pairwise.filter _ (Xf1 List.nodup_range fun x _ y _ e=>by omega)
 have hcl:∀b∈R,0≤at' (-1) bk b∧at' false fixed b=false∧∀c∈at' [] homes (at' (-1) bk b),at' false fixed c=true∨at' false seen' c=true:=fun b hb=>by
  obtain⟨⟨b0,bB⟩,h⟩:=(hR b).1 hb
  exact hl.closed b b0 bB h (h0 b b0 bB)
 have hin:∀b∈R,a≤at' (-1) bk b∧at' (-1) bk b<i:=fun b hb=>by
  obtain⟨⟨b0,bB⟩,h⟩:=(hR b).1 hb
  obtain⟨g1,g2,_⟩:=hcl b hb
  refine⟨(hs.free b b0 bB g2 g1).1,?_⟩
  rcases Int.lt_or_le (at' (-1) bk b) i with h |h
  ·exact h
  ·have h1:=hs.none _ h
   have h2:=Xl3 (l:=bk) ⟨b0,by rw[hs.ok.1];exact bB⟩ rfl
   omega
 have hXn:(i::R.map fun b=>at' (-1) bk b).Nodup:=by
  refine List.nodup_cons.2 ⟨fun hm=>?_,Xf1 hRn fun x hx y hy e=>?_⟩
  ·obtain⟨b,hb,e⟩:=List.mem_map.1 hm
   have:=(hin b hb).2;omega
  ·rcases Decidable.em (x=y) with h |h
   ·exact h
   ·obtain⟨⟨x0,xB⟩,_⟩:=(hR x).1 hx
    obtain⟨⟨y0,yB⟩,_⟩:=(hR y).1 hy
    have h1:=Xk0 (l:=bk) ⟨x0,by rw[hs.ok.1];exact xB⟩ ⟨y0,by rw[hs.ok.1];exact yB⟩ rfl e.symm h
    have h2:=hs.one _ (hin x hx).1 (hin x hx).2
    omega
 have hXr:∀x∈(i::R.map fun b=>at' (-1) bk b),(a≤x∧x<homes.length)∧f x∈R:=fun x hx=>by
  rcases List.mem_cons.1 hx with rfl |hx
  ·obtain⟨h1,h2⟩:=hf1 x ha.2 hi
   refine⟨⟨ha.2,hi⟩,(hR _).2 ⟨hh _ (Xc1 [] (by omega) hi) _ h1,?_⟩⟩
   rcases hl.all _ h1 with h |h
   ·rw[h2] at h;cases h
   ·exact h
  ·obtain⟨b,hb,rfl⟩:=List.mem_map.1 hx
   have hr:=hin b hb
   obtain⟨h1,h2⟩:=hf1 _ hr.1 (by omega)
   refine⟨⟨hr.1,by omega⟩,(hR _).2 ⟨hh _ (Xc1 [] (by omega) (by omega)) _ h1,?_⟩⟩
   rcases(hcl b hb).2.2 _ h1 with h |h
   ·rw[h2] at h;cases h
   ·exact h
 have h1:=pig (Xf1 (f:=f) hXn fun x hx y hy e=>hf2 x y (hXr x hx).1.1 (hXr x hx).1.2 (hXr y hy).1.1 (hXr y hy).1.2 e) (m:=R) (fun y hy=>by
  obtain⟨x,hx,rfl⟩:=List.mem_map.1 hy
  exact(hXr x hx).2)
 simp at h1
 omega
theorem Stand.won{B:Int}{homes:List (List Int)}{fixed seen:List Bool}{a i:Int}{bk bk':Bk}(hs:Stand B homes fixed a i bk)(ha:0≤a∧a≤i)(hw:Won B homes fixed seen i bk bk'):Stand B homes fixed a (i+1) bk' where
 ok:=hw.ok
 le j h:=by
  rw[hw.count j h]
  by_cases he:i=j
  ·rw[if_pos he,hs.none j (by omega)];omega
  ·rw[if_neg he];exact hs.le j h
 one j h1 h2:=by
  rw[hw.count j (by omega)]
  by_cases h:i=j
  ·rw[if_pos h,hs.none j (by omega)]
  ·rw[if_neg h,hs.one j h1 (by omega)]
 none j h:=by rw[hw.count j (by omega),if_neg (by omega),hs.none j (by omega)]
 free b b0 bB hf hb:=by
  rcases hw.edge b b0 bB with h | ⟨_,h⟩
  ·rw[h] at hb ⊢;exact hs.free b b0 bB hf hb
  ·refine⟨?_,h⟩
   rcases Int.lt_or_le (at' (-1) bk' b) a with hlt |hge
   ·exfalso
    have hne:i≠at' (-1) bk' b:=by omega
    have h1:=hw.count _ hb
    rw[if_neg hne] at h1
    have h2:=Xl3 (l:=bk') ⟨b0,by rw[hw.ok.1];exact bB⟩ rfl
    have hm:at' (-1) bk' b∈bk:=List.count_pos_iff.1 (by omega)
    obtain⟨c,c0,cB,hc⟩:=Xhm (-1) hm
    have cB':c<B:=by rw[← hs.ok.1];exact cB
    by_cases hfc:at' false fixed c=true
    ·
     have h3:=hw.still c c0 cB' (.inr hfc)
     have hbc:b≠c:=fun e=>by subst e;rw[hf] at hfc;cases hfc
     have h4:=Xk0 (l:=bk') ⟨b0,by rw[hw.ok.1];exact bB⟩ ⟨c0,by rw[hw.ok.1];exact cB'⟩ rfl (by rw[h3,hc]) hbc
     have h5:=hs.le _ hb
     omega
    ·have:=(hs.free c c0 cB' (by simpa using hfc) (by rw[hc];exact hb)).1
     rw[hc] at this;omega
   ·exact hge
 fix b b0 bB hf:=by rw[hw.still b b0 bB (.inr hf)];exact hs.fix b b0 bB hf
end Go.Proofs.YtmfppphlhgneeaaGreat
namespace Go.Proofs.YtmfppphlhgneeaaGreat
set_option linter.unusedVariables false
structure Fst(B:Int)(homes:List (List Int))(fixed:List Bool)(i:Int)(bk:Bk):Prop where
 ok:BkOK B homes bk
 len:(fixed.length:Int)=B
 le:∀j,0≤j→bk.count j≤1
 fix:∀b,0≤b→b<B→(at' false fixed b=true↔0≤at' (-1) bk b)
 lt:∀b,0≤b→b<B→at' (-1) bk b<i
theorem Fst.stand{B:Int}{homes:List (List Int)}{fixed:List Bool}{i:Int}{bk:Bk}(h:Fst B homes fixed i bk):Stand B homes fixed i i bk where
 ok:=h.ok
 le:=h.le
 one j h1 h2:=by omega
 none j hj:=by
  rcases Nat.eq_zero_or_pos (bk.count j) with h0 |h0
  ·exact h0
  ·obtain⟨b,b0,bB,e⟩:=Xhm (-1) (List.count_pos_iff.1 h0)
   have:=h.lt b b0 (by rw[← h.ok.1];exact bB)
   omega
 free b b0 bB hf hb:=by have:=(h.fix b b0 bB).2 hb;rw[hf] at this;cases this
 fix b b0 bB _:=h.lt b b0 bB
theorem Xup{α:Type}(d:α){l:List α}{b:Int}{y:α}(h0:0≤b)(h1:b<l.length)(h:at' d l b=y):l.set b.toNat y=l:=by
 have hlt:b.toNat<l.length:=by omega
 have:l[b.toNat]=y:=by
  rw[← h];unfold at';rw[List.getD_eq_getElem?_getD,List.getElem?_eq_getElem hlt];rfl
 rw[← this];exact List.set_getElem_self hlt
theorem Fst.take{B:Int}{homes:List (List Int)}{fixed:List Bool}{i b:Int}{bk:Bk}(h:Fst B homes fixed i bk)(hi:0≤i∧i<homes.length)(hb:0≤b∧b<B)(hf:at' false fixed b=false):Fst B homes (fixed.set b.toNat true) (i+1) (bk.set b.toNat i):=by
 have hbl:b<bk.length:=by rw[h.ok.1];exact hb.2
 have hfl:b<fixed.length:=by rw[h.len];exact hb.2
 have hneg:¬0≤at' (-1) bk b:=fun hh=>by have:=(h.fix b hb.1 hb.2).2 hh;rw[hf] at this;cases this
 refine⟨⟨by simpa using h.ok.1,fun v hv=>?_⟩,by simpa using h.len,fun j hj=>?_,fun c c0 cB=>?_,fun c c0 cB=>?_⟩
 ·rcases List.mem_or_eq_of_mem_set hv with h1 |rfl
  ·exact h.ok.2 v h1
  ·omega
 ·have h1:=Xdt (-1) j i hb.1 hbl
  rw[if_neg (by omega:¬at' (-1) bk b=j)] at h1
  by_cases he:i=j
  ·rw[if_pos he] at h1
   have:=h.stand.none j (by omega)
   omega
  ·rw[if_neg he] at h1;have:=h.le j hj;omega
 ·rw[X68 false hb.1 hfl c0,X68 (-1) hb.1 hbl c0]
  by_cases he:c=b
  ·rw[if_pos he,if_pos he];simp;exact hi.1
  ·rw[if_neg he,if_neg he];exact h.fix c c0 cB
 ·rw[X68 (-1) hb.1 hbl c0];split
  ·omega
  ·have:=h.lt c c0 cB;omega
theorem Fst.more{B:Int}{homes:List (List Int)}{fixed:List Bool}{i:Int}{bk:Bk}(h:Fst B homes fixed i bk):Fst B homes fixed (i+1) bk:=
 ⟨h.ok,h.len,h.le,h.fix,fun b b0 bB=>by have:=h.lt b b0 bB;omega⟩
theorem Placeable.step{homes:List (List Int)}{fixed:List Bool}{i:Int}{B:Int}(hh:HomesOK B homes)(hf:(fixed.length:Int)=B)(hi:0≤i∧i<homes.length):
  Placeable homes fixed i↔∃b∈at' [] homes i,at' false fixed b=false∧Placeable homes (fixed.set b.toNat true) (i+1):=by
 constructor
 ·rintro⟨f,h1,h2⟩
  obtain⟨hm,hfr⟩:=h1 i (Int.le_refl _) hi.2
  obtain⟨b0,bB⟩:=hh _ (Xc1 [] hi.1 hi.2) _ hm
  refine⟨f i,hm,hfr,f,fun j hj hn=>?_,fun j k hj hn hk hkn e=>h2 j k (by omega) hn (by omega) hkn e⟩
  obtain⟨hm2,hfr2⟩:=h1 j (by omega) hn
  obtain⟨c0,cB⟩:=hh _ (Xc1 [] (by omega) hn) _ hm2
  refine⟨hm2,?_⟩
  rw[X68 false b0 (by omega) c0,if_neg]
  ·exact hfr2
  ·intro e;have:=h2 j i (by omega) hn (Int.le_refl _) hi.2 e;omega
 ·rintro⟨b,hm,hfr,f,h1,h2⟩
  obtain⟨b0,bB⟩:=hh _ (Xc1 [] hi.1 hi.2) _ hm
  have hne:∀j,i+1≤j→j<homes.length→f j≠b:=fun j hj hn e=>by
   obtain⟨hm2,hfr2⟩:=h1 j hj hn
   rw[e,X68 false b0 (by omega) b0,if_pos rfl] at hfr2;cases hfr2
  refine⟨fun j=>if j=i then b else f j,fun j hj hn=>?_,fun j k hj hn hk hkn e=>?_⟩
  ·by_cases he:j=i
   ·subst he;simp only [if_true];exact⟨hm,hfr⟩
   ·simp only [if_neg he]
    obtain⟨hm2,hfr2⟩:=h1 j (by omega) hn
    obtain⟨c0,cB⟩:=hh _ (Xc1 [] (by omega) hn) _ hm2
    rw[X68 false b0 (by omega) c0,if_neg (hne j (by omega) hn)] at hfr2
    exact⟨hm2,hfr2⟩
  ·by_cases he:j=i<;>by_cases hek:k=i
   ·omega
   ·simp only [he,if_true,if_neg hek] at e;exact absurd e.symm (hne k (by omega) hkn)
   ·simp only [hek,if_true,if_neg he] at e;exact absurd e (hne j (by omega) hn)
   ·simp only [if_neg he,if_neg hek] at e;exact h2 j k (by omega) hn (by omega) hkn e
end Go.Proofs.YtmfppphlhgneeaaGreat
namespace Go.Proofs.YtmfppphlhgneeaaGreat
set_option linter.unusedVariables false
def toL(v:Int):List Int:=if v<0 then [] else [v]
structure Rel(B:Int)(fixed:List Bool)(used:List Int)(bk:Bk)(inn:List (List Int)):Prop where
 ul:(used.length:Int)=B
 il:(inn.length:Int)=B
 u:∀b,0≤b→b<B→at' 0 used b=if at' false fixed b=true then 1 else 0
 n:∀b,0≤b→b<B→at' [] inn b=if at' false fixed b=true then [] else toL (at' (-1) bk b)
def SeenR(B:Int)(fixed s t:List Bool):Prop:=(t.length:Int)=B∧∀b,0≤b→b<B→at' false fixed b=false→at' false t b=at' false s b
theorem SeenR.set{B:Int}{fixed s t:List Bool}(h:SeenR B fixed s t){b:Int}(hb:0≤b∧b<B)(hs:(s.length:Int)=B):SeenR B fixed (s.set b.toNat true) (t.set b.toNat true):=
 ⟨by simpa using h.1,fun c c0 cB hf=>by rw[X68 false hb.1 (by rw[h.1];exact hb.2) c0,X68 false hb.1 (by rw[hs];exact hb.2) c0,h.2 c c0 cB hf]⟩
theorem SeenR.setF{B:Int}{fixed s t:List Bool}(h:SeenR B fixed s t){b:Int}(hb:0≤b∧b<B)(hf:at' false fixed b=true):SeenR B fixed s (t.set b.toNat true):=
 ⟨by simpa using h.1,fun c c0 cB hc=>by rw[X68 false hb.1 (by rw[h.1];exact hb.2) c0,if_neg (fun e=>by subst e;rw[hf] at hc;cases hc)];exact h.2 c c0 cB hc⟩
theorem Rel.set{B:Int}{fixed:List Bool}{used:List Int}{bk:Bk}{inn:List (List Int)}(h:Rel B fixed used bk inn)(hbl:(bk.length:Int)=B){b i:Int}(hb:0≤b∧b<B)(hf:at' false fixed b=false)(hi:0≤i):Rel B fixed used (bk.set b.toNat i) (inn.set b.toNat [i]):=
 ⟨h.ul,by simpa using h.il,h.u,fun c c0 cB=>by
  rw[X68 [] hb.1 (by rw[h.il];exact hb.2) c0,X68 (-1) hb.1 (by omega) c0]
  by_cases e:c=b
  ·subst e;rw[if_pos rfl,if_pos rfl,hf];simp [toL];omega
  ·rw[if_neg e,if_neg e];exact h.n c c0 cB⟩
def RefP(B:Int)(fixed:List Bool)(used:List Int)(inn:List (List Int))(r:Bool)(bk':Bk)(s':List Bool)(x:Option (Bool×List (List Int)×List Bool)):Prop:=
 ∃inn' t',x=some (r,inn',t')∧(r=true→Rel B fixed used bk' inn')∧(r=false→inn'=inn∧SeenR B fixed s' t')
theorem Xmg(B:Int)(homes:List (List Int))(fixed:List Bool)(used:List Int)(hh:HomesOK B homes)(hf:(fixed.length:Int)=B)(i:Int)(hi:0≤i∧i<homes.length)(m:Nat)
  (ih:∀(i:Int)(s t:List Bool)(bk:Bk)(inn:List (List Int))(r:Bool)(bk':Bk)(s':List Bool),0≤i→i<homes.length→(s.length:Int)=B→BkOK B homes bk→s.count false<m→Rel B fixed used bk inn→SeenR B fixed s t→Xd m (homes,bk,fixed) i s=some (r,bk',s')→
   RefP B fixed used inn r bk' s' (Xm m homes inn used 1 i t)):
  ∀(hs:List Int)(s t:List Bool)(bk:Bk)(inn:List (List Int))(r:Bool)(bk':Bk)(s':List Bool),(∀b∈hs,b∈at' [] homes i)→(s.length:Int)=B→BkOK B homes bk→s.count false<m+1→Rel B fixed used bk inn→SeenR B fixed s t→Xk (Xd m) i homes fixed hs s bk=some (r,bk',s')→
   RefP B fixed used inn r bk' s' (X29 (Xm m) homes used 1 i inn hs t)
 | [],s,t,bk,inn,r,bk',s',_,_,_,_,hr,ht,h=>by
  rw[Xk] at h
  cases h
  exact⟨inn,t,rfl,by simp,fun _=>⟨rfl,ht⟩⟩
 |b::hs,s,t,bk,inn,r,bk',s',hm,hsl,hb,hc,hr,ht,h=>by
  have hbi:b∈at' [] homes i:=hm b List.mem_cons_self
  obtain⟨b0,bB⟩:=hh _ (Xc1 [] hi.1 hi.2) b hbi
  have ih2:=fun s t bk inn r bk' s'=>Xmg B homes fixed used hh hf i hi m ih hs s t bk inn r bk' s' (fun c h=>hm c (List.mem_cons_of_mem _ h))
  have htl:=ht.1
  have hbk:=hb.1
  rw[Xk] at h
  unfold X6j at h
  rw[X9z false b0 (by omega),X9z false b0 (by omega)] at h
  simp only [Option.bind_some] at h
  rw[X29]
  unfold Xba
  rw[X9z false b0 (by omega)]
  simp only [Option.bind_some]
  have hu:=hr.u b b0 bB
  have hn:=hr.n b b0 bB
  have hul:=hr.ul
  have hil:=hr.il
  by_cases hfx:at' false fixed b=true
  ·
   have h':Xk (Xd m) i homes fixed hs s bk=some (r,bk',s'):=by
    rw[hfx] at h
    by_cases h1:at' false s b=true
    ·rw[if_pos h1] at h;simpa using h
    ·rw[if_neg h1] at h;simpa using h
   by_cases h1:at' false t b=true
   ·rw[if_pos h1];exact ih2 s t bk inn r bk' s' hsl hb hc hr ht h'
   ·rw[if_neg h1,X67 b0 (by omega)]
    simp only [Option.bind_some]
    rw[X9z 0 b0 (by omega),X9z [] b0 (by omega)]
    simp only [Option.bind_some]
    rw[hu,hn,hfx]
    simp only [if_true,List.length_nil]
    rw[if_neg (by rw[w64_id (by omega) (by omega)];omega)]
    rw[X48]
    exact ih2 s _ bk inn r bk' s' hsl hb hc hr (ht.setF ⟨b0,bB⟩ hfx) h'
  ·have hfx':at' false fixed b=false:=by simpa using hfx
   rw[ht.2 b b0 bB hfx']
   by_cases h1:at' false s b=true
   ·rw[if_pos h1] at h ⊢
    simp only [Option.bind_some,if_true] at h
    exact ih2 s t bk inn r bk' s' hsl hb hc hr ht h
   ·have h1':at' false s b=false:=by simpa using h1
    rw[if_neg h1] at h ⊢
    simp only [Option.bind_some] at h
    rw[if_neg hfx,X9z (-1) b0 (by omega)] at h
    simp only [Option.bind_some] at h
    rw[X67 b0 (by omega)]
    simp only [Option.bind_some]
    rw[X9z 0 b0 (by omega),X9z [] b0 (by omega)]
    simp only [Option.bind_some]
    rw[hfx'] at hu hn
    simp only [Bool.false_eq_true,if_false] at hu hn
    rw[hu,hn]
    by_cases h3:at' (-1) bk b<0
    ·rw[if_pos h3,X67 b0 (by omega)] at h
     simp only [Option.bind_some] at h
     cases h
     have htL:toL (at' (-1) bk b)=[]:=by unfold toL;rw[if_pos h3]
     rw[htL]
     simp only [List.length_nil]
     rw[if_pos (by rw[w64_id (by omega) (by omega)];omega),Xe (by simp)]
     simp only [Option.bind_some,List.nil_append]
     rw[X67 b0 (by omega)]
     simp only [Option.bind_some]
     exact⟨_,_,rfl,fun _=>hr.set hbk ⟨b0,bB⟩ hfx' hi.1,by simp⟩
    ·rw[if_neg h3,X67 b0 (by omega)] at h
     simp only [Option.bind_some] at h
     have htL:toL (at' (-1) bk b)=[at' (-1) bk b]:=by unfold toL;rw[if_neg h3]
     rw[htL]
     simp only [List.length_singleton]
     rw[if_neg (by rw[w64_id (by omega) (by omega)];omega),X48]
     unfold Xb9
     have hlt:b<s.length:=by omega
     have ho:=hb.2 _ (Xc1 (-1) b0 (by omega:b<(bk.length:Int)))
     have hcl:=Xdj b0 hlt h1'
     obtain⟨r1,bk1,s1,e1,l1,m1,w1,f1⟩:=Xjz B homes fixed hh hf m (at' (-1) bk b) (s.set b.toNat true) bk (by omega) ho.2 (by simpa using hsl) hb (by omega)
     rw[e1] at h
     simp only [Option.bind_some] at h
     obtain⟨inn1,t1,e2,g1,g2⟩:=ih (at' (-1) bk b) _ _ bk inn r1 bk1 s1 (by omega) ho.2 (by simpa using hsl) hb (by omega) hr (ht.set ⟨b0,bB⟩ hsl) e1
     rw[e2]
     simp only [Option.bind_some]
     cases r1 with
     |true=>
      have hw:=w1 rfl
      have hr1:=g1 rfl
      have hb1:=hw.ok.1
      have hil1:=hr1.il
      rw[if_pos rfl,X9z (-1) b0 (by omega)] at h
      simp only [Option.bind_some] at h
      rw[X67 b0 (by omega)] at h
      simp only [Option.bind_some] at h
      cases h
      rw[if_pos rfl,X9z [] b0 (by omega)]
      simp only [Option.bind_some]
      have hst:at' (-1) bk1 b=at' (-1) bk b:=hw.still b b0 bB (.inl (by rw[X68 false b0 hlt b0,if_pos rfl]))
      have hn1:=hr1.n b b0 bB
      rw[hfx',hst,htL] at hn1
      simp only [Bool.false_eq_true,if_false] at hn1
      rw[hn1]
      have hx:lidx [at' (-1) bk b] ((0:Nat):Int)=some (at' (-1) bk b):=rfl
      have hy:lupd [at' (-1) bk b] ((0:Nat):Int) i=some [i]:=rfl
      rw[hx]
      simp only [Option.bind_some]
      rw[hy]
      simp only [Option.bind_some]
      rw[X67 b0 (by omega)]
      simp only [Option.bind_some]
      exact⟨_,_,rfl,fun _=>hr1.set hb1 ⟨b0,bB⟩ hfx' hi.1,by simp⟩
     |false=>
      rw[if_neg (by simp)] at h
      rw[if_neg (by simp),X48]
      obtain⟨rfl,hlost⟩:=f1 rfl
      obtain⟨rfl,ht1⟩:=g2 rfl
      have hcle:=Xhn (s:=s.set b.toNat true) (t:=s1) (by rw[List.length_set];omega) (fun c c0 cl h=>m1 c c0 (by simp at cl;omega) h)
      exact ih2 s1 t1 bk1 inn1 r bk' s' l1 hb (by omega) hr ht1 h
theorem Xqn(B:Int)(homes:List (List Int))(fixed:List Bool)(used:List Int)(hh:HomesOK B homes)(hf:(fixed.length:Int)=B):∀(m:Nat)(i:Int)(s t:List Bool)(bk:Bk)(inn:List (List Int))(r:Bool)(bk':Bk)(s':List Bool),0≤i→i<homes.length→(s.length:Int)=B→BkOK B homes bk→s.count false<m→Rel B fixed used bk inn→SeenR B fixed s t→Xd m (homes,bk,fixed) i s=some (r,bk',s')→
   RefP B fixed used inn r bk' s' (Xm m homes inn used 1 i t)
 |0,i,s,t,bk,inn,r,bk',s',_,_,_,_,h,_,_,_=>by omega
 |m+1,i,s,t,bk,inn,r,bk',s',h0,h1,hs,hb,hc,hr,ht,h=>by
  rw[Xd] at h
  unfold X6k at h
  rw[X9z [] h0 h1] at h
  simp only [Option.bind_some] at h
  rw[Xm]
  unfold Xdd
  rw[X9z [] h0 h1]
  simp only [Option.bind_some]
  exact Xmg B homes fixed used hh hf i ⟨h0,h1⟩ m (Xqn B homes fixed used hh hf m) _ s t bk inn r bk' s' (fun _ h=>h) hs hb hc hr ht h
end Go.Proofs.YtmfppphlhgneeaaGreat
namespace Go.Proofs.YtmfppphlhgneeaaGreat
set_option linter.unusedVariables false
def UsedOf(B:Int)(fixed:List Bool)(used:List Int):Prop:=(used.length:Int)=B∧(fixed.length:Int)=B∧∀b,0≤b→b<B→at' 0 used b=if at' false fixed b=true then 1 else 0
theorem Xl4{α:Type}(d x:α){n:Nat}{b:Int}(h0:0≤b)(h1:b<n):at' d (List.replicate n x) b=x:=by
 unfold at';rw[List.getD_eq_getElem?_getD,List.getElem?_replicate,if_pos (by omega)];rfl
theorem Xqo{B:Int}{homes:List (List Int)}{fixed:List Bool}{used:List Int}(hh:HomesOK B homes)(hB:0≤B∧B≤1000)(hf:(fixed.length:Int)=B):
  ∀(hs:List (List Int))(n:Nat)(bk:Bk)(inn:List (List Int)),homes.drop n=hs→n≤homes.length→Stand B homes fixed 0 n bk→Rel B fixed used bk inn→
   ∃r,X2w homes B 1 used hs n inn=some r∧(r=true↔Placeable homes fixed 0)
 | [],n,bk,inn,hd,hle,hs,hr=>by
  have:homes.length≤n:=List.drop_eq_nil_iff.1 hd
  have e:n=homes.length:=by omega
  subst e
  exact⟨true,rfl,by simp [hs.places (Int.le_refl _)]⟩
 |x::hs',n,bk,inn,hd,hle,hs,hr=>by
  have hlt:n<homes.length:=by
   rcases Nat.lt_or_ge n homes.length with h |h
   ·exact h
   ·rw[List.drop_eq_nil_of_le h] at hd;cases hd
  have hd':homes.drop (n+1)=hs':=by rw[← List.drop_drop,hd];rfl
  rw[X2w]
  unfold X8f
  have hmk:lmk B false=some (List.replicate B.toNat false):=by unfold lmk;rw[if_pos (by omega)]
  rw[hmk]
  simp only [Option.bind_some]
  have hsl:((List.replicate B.toNat false).length:Int)=B:=by simp;omega
  have h0:∀b,0≤b→b<B→at' false (List.replicate B.toNat false) b=false:=fun b b0 bB=>Xl4 false false b0 (by omega)
  have hcnt:(List.replicate B.toNat false).count false<big:=by
   have:=List.count_le_length (a:=false) (l:=List.replicate B.toNat false)
   rw[List.length_replicate] at this
   simp only [big];omega
  obtain⟨r1,bk1,s1,e1,l1,m1,w1,f1⟩:=Xjz B homes fixed hh hf big n (List.replicate B.toNat false) bk (by omega) (by omega) hsl hs.ok hcnt
  obtain⟨inn1,t1,e2,g1,g2⟩:=Xqn B homes fixed used hh hf big n _ (List.replicate B.toNat false) bk inn r1 bk1 s1 (by omega) (by omega) hsl hs.ok hcnt hr ⟨hsl,fun _ _ _ _=>rfl⟩ e1
  unfold Xe0
  rw[e2]
  simp only [Option.bind_some]
  cases r1 with
  |true=>
   rw[if_pos rfl]
   exact Xqo hh hB hf hs' (n+1) bk1 inn1 hd' (by omega) (by exact_mod_cast hs.won ⟨Int.le_refl _,by omega⟩ (w1 rfl)) (g1 rfl)
  |false=>
   rw[if_neg (by simp)]
   exact⟨false,rfl,by simp [Xuo hh hs ⟨Int.le_refl _,by omega⟩ (by omega) h0 (f1 rfl).2]⟩
theorem Xom{B:Int}{homes:List (List Int)}{fixed:List Bool}{used:List Int}(hh:HomesOK B homes)(hB:0≤B∧B≤1000)(hu:UsedOf B fixed used):∃r,X78 homes B 1 used=some r∧(r=true↔Placeable homes fixed 0):=by
 unfold X78
 have hmk:lmk B ([]:List Int)=some (List.replicate B.toNat []):=by unfold lmk;rw[if_pos (by omega)]
 rw[hmk]
 simp only [Option.bind_some]
 have hall:∀b,0≤b→b<B→at' (-1) (List.replicate B.toNat (-1:Int)) b= -1:=fun b b0 bB=>Xl4 _ _ b0 (by omega)
 refine Xqo hh hB hu.2.1 homes 0 (List.replicate B.toNat (-1)) _ rfl (Nat.zero_le _) ⟨⟨by simp;omega,fun v hv=>?_⟩,fun j hj=>?_,fun j h1 h2=>by omega,fun j hj=>?_,fun b b0 bB _ h=>?_,fun b b0 bB _=>?_⟩ ⟨hu.1,by simp;omega,hu.2.2,fun b b0 bB=>?_⟩
 ·rw[(List.mem_replicate.1 hv).2];omega
 ·rw[List.count_replicate,if_neg (by simp;omega)];omega
 ·rw[List.count_replicate,if_neg (by simp;omega)]
 ·rw[hall b b0 bB] at h;omega
 ·rw[hall b b0 bB];omega
 ·rw[Xl4 _ _ b0 (by omega),hall b b0 bB];simp [toL]
theorem Xia{homes:List (List Int)}{fixed:List Bool}{a:Nat}(ha:a≤homes.length):Placeable (homes.drop a) fixed 0↔Placeable homes fixed a:=by
 have hat:∀j:Int,0≤j→at' [] (homes.drop a) j=at' [] homes (j+a):=fun j hj=>by
  unfold at'
  rw[List.getD_eq_getElem?_getD,List.getD_eq_getElem?_getD,List.getElem?_drop]
  congr 2;omega
 have hlen:((homes.drop a).length:Int)=homes.length-a:=by simp;omega
 constructor
 ·rintro⟨f,h1,h2⟩
  refine⟨fun j=>f (j-a),fun j hj hn=>?_,fun j k hj hn hk hkn e=>?_⟩
  ·have:=h1 (j-a) (by omega) (by omega)
   rw[hat _ (by omega),show j-a+a=j from by omega] at this
   exact this
  ·have:=h2 (j-a) (k-a) (by omega) (by omega) (by omega) (by omega) e
   omega
 ·rintro⟨f,h1,h2⟩
  refine⟨fun j=>f (j+a),fun j hj hn=>?_,fun j k hj hn hk hkn e=>?_⟩
  ·rw[hat _ hj];exact h1 (j+a) (by omega) (by omega)
  ·have:=h2 (j+a) (k+a) (by omega) (by omega) (by omega) (by omega) e
   omega
def GreedyL(homes:List (List Int)):Int→List (List Int)→List Bool→List Int→Prop
 |_,[],_,bs=>bs=[]
 |i,h::hs,fixed,bs=>∃pre b post bs',bs=b::bs'∧h=pre++b::post∧at' false fixed b=false∧(∀c∈pre,at' false fixed c=true∨¬Placeable homes (fixed.set c.toNat true) (i+1))∧
  Placeable homes (fixed.set b.toNat true) (i+1)∧GreedyL homes (i+1) hs (fixed.set b.toNat true) bs'
theorem UsedOf.take{B:Int}{fixed:List Bool}{used:List Int}(h:UsedOf B fixed used){b:Int}(hb:0≤b∧b<B):UsedOf B (fixed.set b.toNat true) (used.set b.toNat 1):=
 ⟨by simpa using h.1,by simpa using h.2.1,fun c c0 cB=>by
  rw[X68 0 hb.1 (by rw[h.1];exact hb.2) c0,X68 false hb.1 (by rw[h.2.1];exact hb.2) c0]
  by_cases e:c=b
  ·rw[if_pos e,if_pos e];rfl
  ·rw[if_neg e,if_neg e];exact h.2.2 c c0 cB⟩
theorem Xl5{B:Int}{homes:List (List Int)}(hh:HomesOK B homes)(hB:0≤B∧B≤1000)(hn:(homes.length:Int)≤100000)(i:Nat)(hi:i<homes.length)(rec:List Int→List Int→Option (List Int×Bool)){fixed:List Bool}{used:List Int}(hu:UsedOf B fixed used)(out:List Int)(ho:out.length≤100000):
  ∀hs:List Int,(∀b∈hs,0≤b∧b<B)→(∃b∈hs,at' false fixed b=false∧Placeable homes (fixed.set b.toNat true) (i+1))→
   ∃pre b post,hs=pre++b::post∧at' false fixed b=false∧(∀c∈pre,at' false fixed c=true∨¬Placeable homes (fixed.set c.toNat true) (i+1))∧Placeable homes (fixed.set b.toNat true) (i+1)∧
    X1c rec i homes B 1 out hs used=rec (out++[b]) (used.set b.toNat 1)
 | [],_,h=>by obtain⟨b,hb,_⟩:=h;cases hb
 |b::hs,hr,hex=>by
  obtain⟨b0,bB⟩:=hr b List.mem_cons_self
  have hul:=hu.1
  have hub:=hu.2.2 b b0 bB
  have hbl:b<(used.length:Int):=by omega
  have hskip:(at' false fixed b=true∨¬Placeable homes (fixed.set b.toNat true) (i+1))→X1c rec i homes B 1 out (b::hs) used=X1c rec i homes B 1 out hs used→
    ∃pre b' post,b::hs=pre++b'::post∧at' false fixed b'=false∧(∀c∈pre,at' false fixed c=true∨¬Placeable homes (fixed.set c.toNat true) (i+1))∧Placeable homes (fixed.set b'.toNat true) (i+1)∧
    X1c rec i homes B 1 out (b::hs) used=rec (out++[b']) (used.set b'.toNat 1):=fun hno e=>by
   obtain⟨pre,b',post,h1,h2,h3,h4,h5⟩:=Xl5 hh hB hn i hi rec hu out ho hs (fun c hc=>hr c (List.mem_cons_of_mem _ hc)) (by
    obtain⟨c,hc,h1,h2⟩:=hex
    rcases List.mem_cons.1 hc with rfl |hc
    ·rcases hno with h |h
     ·rw[h] at h1;cases h1
     ·exact absurd h2 h
    ·exact⟨c,hc,h1,h2⟩)
   exact⟨b::pre,b',post,by rw[h1];rfl,h2,fun c hc=>by rcases List.mem_cons.1 hc with rfl |hc;exact hno;exact h3 c hc,h4,by rw[e];exact h5⟩
  by_cases hf:at' false fixed b=true
  ·refine hskip (.inl hf) ?_
   rw[X1c]
   unfold X8p
   rw[X9z 0 b0 hbl,hub,if_pos hf]
   simp only [Option.bind_some,if_true]
  ·have hf':at' false fixed b=false:=by simpa using hf
   rw[if_neg hf] at hub
   have hsub:lsub homes (w64 ((i:Int)+1)) (homes.length:Int)=some (homes.drop (i+1)):=by
    rw[w64_id (by omega) (by omega),Xas (by omega) (by omega) (by omega)]
    congr 1
    rw[show((i:Int)+1).toNat=i+1 from by omega,show((homes.length:Int)-((i:Int)+1)).toNat=homes.length-(i+1) from by omega]
    exact List.take_of_length_le (by simp)
   have hhd:HomesOK B (homes.drop (i+1)):=fun l hl=>hh l (List.mem_of_mem_drop hl)
   obtain⟨r,e,hr2⟩:=Xom hhd hB (hu.take ⟨b0,bB⟩)
   rw[Xia (by omega)] at hr2
   have heq:X1c rec i homes B 1 out (b::hs) used=if r=true then rec (out++[b]) (used.set b.toNat 1) else X1c rec i homes B 1 out hs used:=by
    rw[X1c]
    unfold X8p
    rw[X9z 0 b0 hbl,hub]
    simp only [Option.bind_some]
    rw[if_neg (by omega),show w64 (0+1)=1 from by rw[w64_id (by omega) (by omega)];rfl,X67 b0 hbl]
    simp only [Option.bind_some]
    rw[hsub]
    simp only [Option.bind_some]
    rw[e]
    simp only [Option.bind_some]
    rw[Xe (by simp;omega),X9z 0 b0 (by simpa using hbl),X68 0 b0 hbl b0,if_pos rfl]
    simp only [Option.bind_some]
    rw[show w64 (1-1)=0 from by rw[w64_id (by omega) (by omega)];rfl,X67 b0 (by simpa using hbl)]
    simp only [Option.bind_some,List.set_set]
    rw[Xup 0 b0 hbl hub]
   cases r with
   |true=>rw[if_pos rfl] at heq;exact⟨[],b,hs,rfl,hf',by simp,by exact_mod_cast hr2.1 rfl,heq⟩
   |false=>rw[if_neg (by simp)] at heq;exact hskip (.inr fun hp=>by have:=hr2.2 (by exact_mod_cast hp);cases this) heq
theorem Xl6{B:Int}{homes:List (List Int)}(hh:HomesOK B homes)(hB:0≤B∧B≤1000)(hn:(homes.length:Int)≤100000):∀(hs:List (List Int))(n:Nat)(fixed:List Bool)(used out:List Int),homes.drop n=hs→UsedOf B fixed used→out.length=n→n≤homes.length→Placeable homes fixed n→
  ∃bs,X1o homes B 1 hs n out used=some (out++bs,true)∧GreedyL homes n hs fixed bs
 | [],n,fixed,used,out,hd,hu,hl,hle,hp=>⟨[],by simp [X1o],rfl⟩
 |l::hs,n,fixed,used,out,hd,hu,hl,hle,hp=>by
  have hlt:n<homes.length:=by
   rcases Nat.lt_or_ge n homes.length with h |h
   ·exact h
   ·rw[List.drop_eq_nil_of_le h] at hd;cases hd
  have hd':homes.drop (n+1)=hs:=by rw[← List.drop_drop,hd];rfl
  have hat:at' [] homes (n:Int)=l:=by
   unfold at'
   rw[Int.toNat_natCast,List.getD_eq_getElem?_getD,List.getElem?_eq_getElem hlt]
   rw[List.drop_eq_getElem_cons hlt] at hd
   exact(List.cons.inj hd).1
  have hi:0≤(n:Int)∧(n:Int)<homes.length:=⟨by omega,by omega⟩
  have hlr:∀b∈l,0≤b∧b<B:=hat▸hh _ (Xc1 [] hi.1 hi.2)
  have hst:=(Placeable.step hh hu.2.1 hi).1 hp
  rw[hat] at hst
  obtain⟨pre,b,post,h1,h2,h3,h4,h5⟩:=Xl5 hh hB hn n hlt (X1o homes B 1 hs (n+1)) hu out (by omega) l hlr hst
  obtain⟨b0,bB⟩:=hlr b (by rw[h1];simp)
  obtain⟨bs,e,hg⟩:=Xl6 hh hB hn hs (n+1) (fixed.set b.toNat true) (used.set b.toNat 1) (out++[b]) hd' (hu.take ⟨b0,bB⟩) (by simp [hl]) (by omega) (by exact_mod_cast h4)
  refine⟨b::bs,?_,pre,b,post,bs,rfl,h1,h2,h3,h4,by exact_mod_cast hg⟩
  rw[X1o]
  unfold Xbb
  rw[h5,e]
  simp
end Go.Proofs.YtmfppphlhgneeaaGreat
namespace Go.Proofs.YtmfppphlhgneeaaGreat
set_option linter.unusedVariables false
abbrev Hsh:=Int×List (Int×Int)
def PairOK(p:Int×Int):Prop:=0≤p.1∧p.1<2147483647∧0≤p.2∧p.2<2147483647
def HshOK(h:Hsh):Prop:=1≤h.1∧h.1≤64∧1≤h.2.length∧h.2.length≤4∧∀p∈h.2,PairOK p
def ItemOK(n:Int):Prop:=0≤n∧n<2147483647
def homeL(h:Hsh)(n:Int):List Int:=h.2.map fun p=>(p.1*n+p.2)%2147483647%h.1
theorem Xon:∀ps:List (Int×Int),(X1z ps=some 0∧∀p∈ps,PairOK p)∨(X1z ps=some 2∧¬∀p∈ps,PairOK p)
 | []=> .inl ⟨rfl,by simp⟩
 |p::ps=>by
  rw[X1z]
  unfold Xa4
  split
  ·rename_i h
   refine .inr ⟨rfl,fun ha=>?_⟩
   have:=ha p List.mem_cons_self
   unfold PairOK at this;omega
  ·rename_i h
   have hp:PairOK p:=by unfold PairOK;omega
   rcases Xon ps with ⟨e,h1⟩ | ⟨e,h1⟩
   ·exact .inl ⟨e,fun q hq=>by rcases List.mem_cons.1 hq with rfl |hq;exact hp;exact h1 q hq⟩
   ·exact .inr ⟨e,fun ha=>h1 fun q hq=>ha q (List.mem_cons_of_mem _ hq)⟩
theorem Xk1(h:Hsh):(X33 h=some 0∧HshOK h)∨(X33 h=some 2∧¬HshOK h):=by
 unfold X33
 split
 ·rename_i hh
  refine .inr ⟨rfl,fun ha=>?_⟩
  unfold HshOK at ha;omega
 ·rename_i hh
  rcases Xon h.2 with ⟨e,h1⟩ | ⟨e,h1⟩
  ·exact .inl ⟨e,by omega,by omega,by omega,by omega,h1⟩
  ·exact .inr ⟨e,fun ha=>h1 ha.2.2.2.2⟩
theorem Xmh:∀ps,X54 ps=X1z ps
 | []=>rfl
 |p::ps=>by rw[X54,X1z,Xmh ps];rfl
theorem rcheck(h:Hsh):X9j h=X33 h:=by
 unfold X9j X33;rw[Xmh]
theorem Xoo{a b n B:Int}(ha:PairOK (a,b))(hn:ItemOK n)(hB:1≤B):Int.tmod (Int.tmod (w64 ((w64 (a*n))+b)) 2147483647) B=(a*n+b)%2147483647%B:=by
 unfold PairOK at ha;unfold ItemOK at hn
 dsimp only at ha
 have h1:0≤a*n:=Int.mul_nonneg ha.1 hn.1
 have h2:a*n≤2147483647*2147483647:=Int.mul_le_mul (by omega) (by omega) hn.1 (by omega)
 have e1:(a*n+b).tmod 2147483647=(a*n+b)%2147483647:=Int.tmod_eq_emod_of_nonneg (by omega)
 rw[w64_id (x:=a*n) (by omega) (by omega),w64_id (by omega) (by omega),e1,Int.tmod_eq_emod_of_nonneg (Int.emod_nonneg _ (by omega))]
theorem Xop{B n:Int}(hB:1≤B)(hn:ItemOK n):∀(ps:List (Int×Int))(acc:List Int),(∀p∈ps,PairOK p)→acc.length+ps.length≤100→X34 n B ps acc=some (acc++ps.map fun p=>(p.1*n+p.2)%2147483647%B)
 | [],acc,_,_=>by simp [X34]
 |p::ps,acc,hp,hl=>by
  rw[X34]
  unfold Xa7
  simp only [List.length_cons] at hl
  rw[Xkt (by omega),Xe (by simp;omega)]
  simp only [Option.bind_some]
  rw[Xop hB hn ps _ (fun q hq=>hp q (List.mem_cons_of_mem _ hq)) (by simp;omega),Xoo (hp p List.mem_cons_self) hn hB]
  simp
theorem Xpo{h:Hsh}(hk:HshOK h){n:Int}(hn:ItemOK n):Xbh h n=some (homeL h n):=by
 unfold Xbh
 have h4:=hk.2.2.2.1
 rw[Xop hk.1 hn h.2 [] hk.2.2.2.2 (by simp;omega)]
 rfl
theorem Xmi{B n:Int}(hB:1≤B)(hn:ItemOK n):∀(ps:List (Int×Int))(acc:List Int),(∀p∈ps,PairOK p)→acc.length+ps.length≤100→X47 n B ps acc=some (acc++ps.map (fun p=>(p.1*n+p.2)%2147483647%B),0)
 | [],acc,_,_=>by simp [X47]
 |p::ps,acc,hp,hl=>by
  rw[X47]
  unfold Xb8
  simp only [List.length_cons] at hl
  rw[Xkt (by omega),Xe (by simp;omega)]
  simp only [Option.bind_some]
  rw[Xmi hB hn ps _ (fun q hq=>hp q (List.mem_cons_of_mem _ hq)) (by simp;omega),Xoo (hp p List.mem_cons_self) hn hB]
  simp
theorem Xoq{h:Hsh}(hk:HshOK h){n:Int}(hn:ItemOK n):Xcl h n=some (homeL h n,0):=by
 unfold Xcl
 rcases Xk1 h with ⟨e,_⟩ | ⟨_,e⟩
 ·rw[rcheck,e]
  simp only [Option.bind_some]
  have h4:=hk.2.2.2.1
  have:=hn.1;have:=hn.2
  rw[if_neg (by simp),if_neg (by omega),Xmi hk.1 hn h.2 [] hk.2.2.2.2 (by simp;omega)]
  rfl
 ·exact absurd hk e
theorem Xed{h:Hsh}(hk:HshOK h)(n:Int):∀b∈homeL h n,0≤b∧b<h.1:=fun b hb=>by
 obtain⟨p,_,rfl⟩:=List.mem_map.1 hb
 have:=hk.1
 exact⟨Int.emod_nonneg _ (by omega),Int.emod_lt_of_pos _ (by omega)⟩
end Go.Proofs.YtmfppphlhgneeaaGreat
namespace Go.Proofs.YtmfppphlhgneeaaGreat
set_option linter.unusedVariables false
def nofix(h:Hsh):List Bool:=List.replicate h.1.toNat false
end Go.Proofs.YtmfppphlhgneeaaGreat
namespace Go.Proofs.YtmfppphlhgneeaaGreat
set_option maxRecDepth 100000
end Go.Proofs.YtmfppphlhgneeaaGreat
namespace Go.Proofs.YtmfppphlhgneeaaGreat
set_option linter.unusedVariables false
end Go.Proofs.YtmfppphlhgneeaaGreat
namespace Go.Proofs.YtmfppphlhgneeaaGreat
set_option linter.unusedVariables false
def PlacesL(ls:List (List Int))(fixed:List Bool):Prop:=∃ps:List (Int×List Int),ps.map (·.2)=ls∧(∀p∈ps,p.1∈p.2∧at' false fixed p.1=false)∧(ps.map (·.1)).Nodup
theorem Xor{α β:Type}(f:α→β){l m:List β}(h:l.Perm m):∀ps:List α,ps.map f=l→∃qs:List α,qs.Perm ps∧qs.map f=m:=by
 induction h with
 |nil=>intro ps hp;exact⟨ps,List.Perm.refl _,hp⟩
 |cons x _ ih=>
  intro ps hp
  cases ps with
  |nil=>simp at hp
  |cons p ps=>
   simp only [List.map_cons,List.cons.injEq] at hp
   obtain⟨qs,h1,h2⟩:=ih ps hp.2
   exact⟨p::qs,h1.cons p,by simp [hp.1,h2]⟩
 |swap x y l=>
  intro ps hp
  cases ps with
  |nil=>simp at hp
  |cons p ps=>
   cases ps with
   |nil=>simp at hp
   |cons q ps=>
    simp only [List.map_cons,List.cons.injEq] at hp
    exact⟨q::p::ps,List.Perm.swap p q ps,by simp [hp.1,hp.2.1,hp.2.2]⟩
 |trans _ _ ih1 ih2=>
  intro ps hp
  obtain⟨qs,h1,h2⟩:=ih1 ps hp
  obtain⟨rs,h3,h4⟩:=ih2 qs h2
  exact⟨rs,h3.trans h1,h4⟩
theorem PlacesL.perm{l m:List (List Int)}{fixed:List Bool}(h:l.Perm m):PlacesL l fixed→PlacesL m fixed:=by
 rintro⟨ps,h1,h2,h3⟩
 obtain⟨qs,k1,k2⟩:=Xor _ h ps h1
 exact⟨qs,k2,fun p hp=>h2 p (k1.mem_iff.1 hp),(k1.map _).nodup_iff.2 h3⟩
theorem PlacesL.sub{l m:List (List Int)}{fixed:List Bool}(h:m.Sublist l):PlacesL l fixed→PlacesL m fixed:=by
 rintro⟨ps,h1,h2,h3⟩
 subst h1
 obtain⟨qs,k1,k2⟩:=List.sublist_map_iff.1 h
 exact⟨qs,k2.symm,fun p hp=>h2 p (k1.subset hp),h3.sublist (k1.map _)⟩
theorem PlacesL.more{α:Type}{f g:α→List Int}{l:List α}{fixed:List Bool}(h:∀x∈l,∀b∈f x,b∈g x):PlacesL (l.map f) fixed→PlacesL (l.map g) fixed:=by
 rintro⟨ps,h1,h2,h3⟩
 have hlen:ps.length=l.length:=by have:=congrArg List.length h1;simpa using this
 refine⟨(ps.map (·.1)).zip (l.map g),?_,fun p hp=>?_,?_⟩
 ·rw[← List.unzip_snd,List.unzip_zip (by simp [hlen])]
 ·obtain⟨i,hi,rfl⟩:=List.getElem_of_mem hp
  have hi1:i<ps.length:=by simp at hi;omega
  have hi2:i<l.length:=by omega
  simp only [List.getElem_zip,List.getElem_map]
  have h4:(ps[i]).2=f l[i]:=by
   have:(ps.map (·.2))[i]'(by simpa using hi1)=(l.map f)[i]'(by simpa using hi2):=by simp only [h1]
   simpa using this
  obtain⟨h5,h6⟩:=h2 _ (List.getElem_mem hi1)
  exact⟨h _ (List.getElem_mem hi2) _ (h4▸h5),h6⟩
 ·rw[← List.unzip_fst,List.unzip_zip (by simp [hlen])];exact h3
end Go.Proofs.YtmfppphlhgneeaaGreat
namespace Go.Proofs.YtmfppphlhgneeaaGreat
set_option linter.unusedVariables false
theorem Xos(x:Int):∀(l:List Int)(i:Nat),∃r,X16 x l i=some r∧(0≤r↔x∈l)
 | [],i=>⟨-1,rfl,by simp⟩
 |y::l,i=>by
  rw[X16]
  unfold X45
  by_cases h:x=y
  ·rw[if_pos h];exact⟨i,rfl,by simp [h]⟩
  ·rw[if_neg h]
   obtain⟨r,e,hr⟩:=Xos x l (i+1)
   exact⟨r,e,by rw[hr];simp [h]⟩
theorem Xlq(l:List Int)(x:Int):∃r,X2a l x=some r∧(r=true↔x∈l):=by
 unfold X2a X5u
 obtain⟨r,e,hr⟩:=Xos x l 0
 rw[e]
 exact⟨decide (0≤r),rfl,by simp [hr]⟩
structure Asg(B:Int)(homes:List (List Int))(bk:Bk):Prop where
 ok:BkOK B homes bk
 le:∀j,0≤j→bk.count j≤1
 has:∀j:Int,0≤j→j<homes.length→∃b,0≤b∧b<B∧b∈at' [] homes j∧at' (-1) bk b=j
theorem Asg.edge{B:Int}{homes:List (List Int)}{bk:Bk}(h:Asg B homes bk){b:Int}(b0:0≤b)(bB:b<B)(hn:0≤at' (-1) bk b):b∈at' [] homes (at' (-1) bk b):=by
 have hb:=h.ok.1
 have hv:=h.ok.2 _ (Xc1 (-1) (l:=bk) b0 (by omega))
 obtain⟨c,c0,cB,hc,e⟩:=h.has _ hn hv.2
 by_cases hbc:b=c
 ·rw[hbc] at e ⊢;rw[e];rw[hbc] at hc;rw[e] at hc;exact hc
 ·have:=Xk0 (l:=bk) ⟨b0,by omega⟩ ⟨c0,by omega⟩ rfl e hbc
  have:=h.le _ hn
  omega
end Go.Proofs.YtmfppphlhgneeaaGreat
end

section
namespace Go.Proofs.YtmfppphlhgneeaaGreat
set_option linter.unusedVariables false
theorem Xfh:∀{l:List Int},(∀x,l.count x≤1)→l.Nodup
 | [],_=>List.nodup_nil
 |x::l,h=>by
  refine List.nodup_cons.2 ⟨fun hm=>?_,Xfh fun y=>?_⟩
  ·have:=h x
   rw[List.count_cons_self] at this
   have:=List.count_pos_iff.2 hm
   omega
  ·have:=h y
   rw[List.count_cons] at this
   omega
theorem Asg.used{B:Int}{homes:List (List Int)}{bk:Bk}(h:Asg B homes bk):(bk.filter fun x=>decide (0≤x)).length=homes.length:=by
 have hn:(bk.filter fun x=>decide (0≤x)).Nodup:=Xfh fun x=>by
  by_cases hx:0≤x
  ·have h1:=(List.filter_sublist (p:=fun x=>decide (0≤x)) (l:=bk)).count_le x
   have:=h.le x hx
   omega
  ·have:(bk.filter fun x=>decide (0≤x)).count x=0:=List.count_eq_zero.2 fun hm=>by
    have:=(List.mem_filter.1 hm).2
    simp at this;omega
   omega
 have hb:=h.ok.1
 have h1:=pig hn (m:=(List.range homes.length).map fun(i:Nat)=>(i:Int)) fun x hx=>by
  obtain⟨h2,h3⟩:=List.mem_filter.1 hx
  have:=(h.ok.2 x h2).2
  have h4:0≤x:=by simpa using h3
  exact List.mem_map.2 ⟨x.toNat,List.mem_range.2 (by omega),by omega⟩
 have h2:=pig (l:=(List.range homes.length).map fun(i:Nat)=>(i:Int)) (m:=bk.filter fun x=>decide (0≤x)) (Xf1 List.nodup_range fun x _ y _ e=>by omega) fun x hx=>by
  obtain⟨i,hi,rfl⟩:=List.mem_map.1 hx
  obtain⟨b,b0,bB,_,e⟩:=h.has i (by omega) (by have:=List.mem_range.1 hi;omega)
  refine List.mem_filter.2 ⟨?_,by simp⟩
  rw[← e];exact Xc1 (-1) b0 (by omega)
 simp at h1 h2
 omega
end Go.Proofs.YtmfppphlhgneeaaGreat
end

section
namespace Go.Proofs.YtmfppphlhgneeaaGreat
set_option linter.unusedVariables false
theorem Xot{h:Hsh}(hk:HshOK h){n:Int}(hn:ItemOK n):Xbi h n=some (homeL h n,0):=by
 unfold Xbi
 rcases Xk1 h with ⟨e,_⟩ | ⟨_,hc⟩
 ·rw[e]
  simp only [Option.bind_some]
  have hi:Xcj n=some true:=by unfold Xcj ItemOK at*;simp [hn]
  rw[if_neg (by simp),hi]
  simp only [Option.bind_some]
  rw[if_neg (by simp),Xpo hk hn];rfl
 ·exact absurd hk hc
end Go.Proofs.YtmfppphlhgneeaaGreat
end

section
namespace Go.Proofs.YtmfppphlhgneeaaGreat
set_option linter.unusedVariables false
set_option maxRecDepth 100000
theorem Xs8{s:ByteArray}{i:Int}(h0:0≤i)(h1:i<s.size):∃c,sidx s i=some c∧0≤c∧c≤255:=by
 unfold sidx
 rw[if_pos ⟨h0,h1⟩]
 have:=(s.data.toList.getD i.toNat 0).toNat_lt
 exact⟨_,rfl,by omega,by omega⟩
theorem Xuq(w:ByteArray)(hw:w.size≤100000):∀(m fuel:Nat)(v:Int)(i:Nat),i+m=w.size→m<fuel→ItemOK v→
  ∃s,X1e w (w.size:Int) fuel v (i:Int)=some s∧X7i w fuel v (i:Int)=some s∧ItemOK s
 |m,0,_,_,_,h,_=>by omega
 |0,fuel+1,v,i,h1,h2,hv=>by
  rw[X1e,X7i]
  unfold X3u Xbk
  rw[if_neg (by omega),if_neg (by omega)]
  exact⟨v,rfl,rfl,hv⟩
 |m+1,fuel+1,v,i,h1,h2,hv=>by
  rw[X1e,X7i]
  unfold X3u Xbk
  obtain⟨c,e,c0,c1⟩:=Xs8 (s:=w) (i:=(i:Int)) (by omega) (by omega)
  unfold ItemOK at hv
  rw[if_pos (by omega),if_pos (by omega),e,Option.bind_some,Option.bind_some,w64_id (x:=c) (by omega) (by omega),w64_id (x:=v*1000003) (by omega) (by omega),w64_id (x:=v*1000003+c) (by omega) (by omega),w64_id (x:=v*1000003+c+1) (by omega) (by omega),w64_id (x:=(i:Int)+1) (by omega) (by omega)]
  exact Xuq w hw m fuel _ (i+1) (by omega) (by omega) ⟨Int.tmod_nonneg _ (by omega),Int.tmod_lt_of_pos _ (by omega)⟩
def sumI(w:ByteArray):Int:=(Xdm w).getD 0
theorem Xqp{w:ByteArray}(hw:w.size≤100000):Xdk w=some (sumI w)∧Xdm w=some (sumI w)∧ItemOK (sumI w):=by
 obtain⟨s,h1,h2,h3⟩:=Xuq w hw w.size big 1 0 (by omega) (by simp only [big];omega) ⟨by omega,by omega⟩
 have e:Xdm w=some s:=h2
 have e2:sumI w=s:=by unfold sumI;rw[e];rfl
 refine⟨?_,by rw[e,e2],by rw[e2];exact h3⟩
 unfold Xdk X8a
 rw[show X1e w (w.size:Int) big 1 0=some s from h1,Option.bind_some,e2]
theorem ccheck{h:Hsh}(hk:HshOK h):X33 h=some 0:=by
 rcases Xk1 h with h1 |h1
 ·exact h1.1
 ·exact absurd hk h1.2
theorem Xiv(w:ByteArray):X51 w=some (decide (KeyP w)):=by
 rw[show X51 w=Xck w from rfl,Xoj]
theorem Xl7{h:Hsh}(hk:HshOK h){w:ByteArray}(hw:w.size≤100000):X8b h w=some (homeL h (sumI w)):=by
 unfold X8b
 obtain⟨h1,h2,h3⟩:=Xqp hw
 rw[h1,Option.bind_some,Xot hk h3,Option.bind_some]
theorem Xs9{h:Hsh}(hk:HshOK h){w:ByteArray}(hw:KeyP w):Xaw h w=some (homeL h (sumI w),0):=by
 unfold Xaw Xc6
 rw[ccheck hk,Option.bind_some,if_neg (by decide),Xiv,Option.bind_some,if_neg (nb_t hw),Xl7 hk (by have:=hw.2;omega)]
 rfl
theorem r20homes_ok{h:Hsh}(hk:HshOK h){w:ByteArray}(hw:KeyP w):Xcm h w=some (homeL h (sumI w),0):=by
 unfold Xcm
 obtain⟨h1,h2,h3⟩:=Xqp (w:=w) (by have:=hw.2;omega)
 rw[rcheck,ccheck hk,Option.bind_some,if_neg (by decide),Xoj,Option.bind_some,if_neg (nb_t hw),h2,Option.bind_some,Xoq hk h3]
 rfl
abbrev Ent:=ByteArray×Int
def EntOK(e:Ent):Prop:=KeyP e.1∧0≤e.2∧e.2<2147483647
def AscE(l:List Ent):Prop:=l.Pairwise fun a b=>sLt a.1 b.1
instance (e:Ent):Decidable (EntOK e):=by unfold EntOK KeyP;infer_instance
theorem Xl8(e:Ent):Xax e=some (decide (EntOK e)):=by
 unfold Xax
 rw[Xoj,Option.bind_some]
 exact congrArg some (decide_eq_decide.2 (by unfold EntOK;rw[decide_eq_true_eq];exact⟨fun h=>⟨h.1.1,h.1.2,h.2⟩,fun h=>⟨⟨h.1,h.2.1⟩,h.2.2⟩⟩))
abbrev BR:=((Int×(List (Int×Int)))×Int×(List (List (ByteArray×Int))))×Int
theorem Xou(kx:ByteArray→Int→Int→Int→Int→Option BR)(w:ByteArray)(a b c d:Int):∀xs:List Ent,(∀x∈xs,x.1≠w)→X4j kx w a b c d xs=kx w a b c d
 | [],_=>rfl
 |x::xs,h=>by
  show X7j kx w a b c d (X4j kx w a b c d xs) x=_
  unfold X7j
  rw[if_neg (h x List.mem_cons_self)]
  exact Xou kx w a b c d xs fun y hy=>h y (List.mem_cons_of_mem _ hy)
theorem Xv2(rec:List Ent→Int→Int→Int→Option BR)(s:List Ent)(e:Ent)(a b c:Int)(hs:s.length≤1000)(h:∀x∈s,sLt x.1 e.1):X36 rec s e.1 e.2 a b c=rec (s++[e]) a b c:=by
 unfold X36
 rw[show big=(big-1)+1 from by simp only [big],X8s]
 unfold Xbe
 have hg:(if 0<(s.length:Int) then((lidx s (w64 ((s.length:Int)-1))).bind fun u=>some (decide (sLt e.1 u.1))) else some false)=some false:=by
  by_cases c:0<(s.length:Int)
  ·rw[if_pos c,w64_id (by omega) (by omega),Xec (ByteArray.empty,0) (by omega) (by omega),Option.bind_some]
   refine congrArg some (decide_eq_false fun h2=>Xk9 h2 (h _ ?_))
   rw[List.getD_eq_getElem?_getD,List.getElem?_eq_getElem (by omega)]
   exact List.getElem_mem _
  ·rw[if_neg c]
 rw[hg,Option.bind_some,if_neg (by decide)]
 unfold X58
 rw[Xe (by first |omega | (simp;done) | (simp;omega)),Option.bind_some,w64_id (by omega) (by omega)]
 unfold psub
 rw[if_pos (by first |omega | (simp;done) | (simp;omega)),Option.bind_some,if_pos (by first |omega | (simp;done) | (simp;omega)),Option.bind_some]
 dsimp only
 rw[Xas (by omega) (by first |omega | (simp;done) | (simp;omega)) (by first |omega | (simp;done) | (simp;omega)),Option.bind_some,Xas (by omega) (by first |omega | (simp;done) | (simp;omega)) (by first |omega | (simp;done) | (simp;omega)),Option.bind_some]
 have e0:((((s++[(ByteArray.empty,(0:Int))]).drop (0+((s.length:Int)+1)).toNat).take (0+(((s++[(ByteArray.empty,(0:Int))]).length:Int)-0)-(0+((s.length:Int)+1))).toNat)).length=0:=by first |omega | (simp;done) | (simp;omega)
 rw[e0]
 have e1:∀src:List Ent,lcpy (s++[(ByteArray.empty,(0:Int))]) (0+((s.length:Int)+1)) 0 src=s++[(ByteArray.empty,0)]:=fun src=>by
  unfold lcpy
  rw[List.take_of_length_le (by first |omega | (simp;done) | (simp;omega)),List.drop_of_length_le (by first |omega | (simp;done) | (simp;omega))]
  simp
 rw[e1]
 unfold Xbd
 rw[Xec (ByteArray.empty,0) (by omega) (by first |omega | (simp;done) | (simp;omega)),Option.bind_some,X67 (by omega) (by first |omega | (simp;done) | (simp;omega)),Option.bind_some,Int.toNat_natCast,List.set_append_right _ _ (by omega),Nat.sub_self]
 rfl
theorem Xqq(kx:List Ent→Int→Int→Int→Option BR)(a b c:Int)(l:List Ent)(hl:l.length≤1000)(hv:∀e∈l,EntOK e)(ha:AscE l):∀(xs s:List Ent),s++xs=l→
  Xf kx l xs s.length s a b c=kx l a b c
 | [],s,h=>by rw[List.append_nil] at h;subst h;rfl
 |e::xs,s,h=>by
  show X7k kx l (Xf kx l xs (s.length+1)) e s.length s a b c=_
  unfold X7k
  have hm:e∈l:=by rw[← h];simp
  rw[Xl8,Option.bind_some,if_neg (nb_t (hv e hm)),Xas (by omega) (by omega) (by rw[← h];first |omega | (simp;done) | (simp;omega)),Option.bind_some,show((l.drop (0:Int).toNat).take (((s.length:Nat):Int)-0).toNat)=s from by rw[← h];simp]
  have hlt:∀x∈s,sLt x.1 e.1:=by
   unfold AscE at ha
   rw[← h,List.pairwise_append] at ha
   exact fun x hx=>ha.2.2 x hx e List.mem_cons_self
  have hsl:s.length≤1000:=by have:=congrArg List.length h;simp at this;omega
  rw[Xou _ _ _ _ _ _ s (fun x hx he=>Xgx x.1 (by have:=hlt x hx;rw[← he] at this;exact this)),Xv2 _ s e a b c hsl hlt]
  have:=Xqq kx a b c l hl hv ha xs (s++[e]) (by rw[List.append_assoc];exact h)
  rw[List.length_append] at this
  exact this
theorem Xmj{h:Hsh}(hk:HshOK h)(kx:List (List Int)→Int→Int→Int→Option BR)(a b:Int):∀(xs:List Ent)(acc:List (List Int)),acc.length+xs.length≤1000→(∀e∈xs,EntOK e)→
  X49 kx a b h.1 h.2 xs acc=kx (acc++xs.map fun e=>homeL h (sumI e.1)) a b h.1
 | [],acc,_,_=>by simp [X49]
 |x::xs,acc,hl,hv=>by
  show X8r kx a b h.1 h.2 (X49 kx a b h.1 h.2 xs) x acc=_
  unfold X8r
  simp only [List.length_cons] at hl
  rw[show((h.1,h.2):Hsh)=h from rfl,r20homes_ok hk (hv x List.mem_cons_self).1,Option.bind_some,Xe (by simp;omega),Option.bind_some,Xmj hk kx a b xs _ (by simp;omega) (fun e he=>hv e (List.mem_cons_of_mem _ he))]
  simp
def Held(B:Int)(l:List Ent)(bs:List Int)(n:Nat)(E:List (List Ent)):Prop:=
 (E.length:Int)=B∧∀b:Nat,(b:Int)<B→(∃k,k<n∧bs.getD k 0=b∧E.getD b []=[l.getD k (ByteArray.empty,0)])∨((∀k,k<n→bs.getD k 0≠b)∧E.getD b []=[])
theorem Xov{h:Hsh}(hk:HshOK h)(kx:Int→Int→List (List Ent)→Int→Int→Int→Option BR)(l:List Ent)(a b c d e:Int){bs:List Int}(hb:bs.length=l.length)(hl:l.length≤1000)(hr:∀x∈bs,0≤x∧x<h.1)(hn:bs.Nodup):∀(xs:List Int)(n:Nat)(E:List (List Ent)),bs.drop n=xs→n≤bs.length→Held h.1 l bs n E→
  ∃E',X56 kx l a b c d e xs n E=kx a b E' c d e∧Held h.1 l bs bs.length E'
 | [],n,E,hd,hle,hE=>by
  have:bs.length≤n:=List.drop_eq_nil_iff.1 hd
  obtain rfl:n=bs.length:=by omega
  exact⟨E,rfl,hE⟩
 |x::xs,n,E,hd,hle,hE=>by
  have hlt:n<bs.length:=by
   rcases Nat.lt_or_ge n bs.length with h |h
   ·exact h
   ·rw[List.drop_eq_nil_of_le h] at hd;cases hd
  have hd':bs.drop (n+1)=xs:=by rw[← List.drop_drop,hd];rfl
  have hx:bs.getD n 0=x:=by
   rw[List.drop_eq_getElem_cons hlt] at hd
   rw[List.getD_eq_getElem?_getD,List.getElem?_eq_getElem hlt]
   exact(List.cons.inj hd).1
  have hxm:x∈bs:=List.mem_of_mem_drop (i:=n) (by rw[hd];exact List.mem_cons_self)
  obtain⟨x0,x1⟩:=hr x hxm
  have hu:∀k,k<n→bs.getD k 0≠x:=fun k hk2 he=>by
   rw[← hx,List.getD_eq_getElem?_getD,List.getD_eq_getElem?_getD,List.getElem?_eq_getElem (by omega),List.getElem?_eq_getElem hlt] at he
   exact List.pairwise_iff_getElem.1 hn k n (by omega) hlt hk2 he
  have hE0:E.getD x.toNat []=[]:=by
   rcases hE.2 x.toNat (by omega) with ⟨k,h1,h2,h3⟩ | ⟨h1,h2⟩
   ·exact absurd (by omega) (hu k h1)
   ·exact h2
  show ∃E',X8q kx l a b c d e (X56 kx l a b c d e xs (n+1)) x n E=_∧_
  unfold X8q
  have hEl:=hE.1
  rw[Xbg (ByteArray.empty,0) (by omega),Option.bind_some,Xec [] x0 (by omega),Option.bind_some,hE0,Xe (by simp),Option.bind_some,Option.bind_some,X67 x0 (by omega),Option.bind_some,List.nil_append]
  refine Xov hk kx l a b c d e hb hl hr hn xs (n+1) _ hd' (by omega) ⟨by rw[List.length_set];exact hEl,fun q hq=>?_⟩
  rw[List.getD_eq_getElem?_getD,List.getElem?_set]
  by_cases he:x.toNat=q
  ·rw[if_pos he,if_pos (by omega)]
   exact .inl ⟨n,by omega,by omega,rfl⟩
  ·rw[if_neg he, ← List.getD_eq_getElem?_getD]
   rcases hE.2 q hq with ⟨k,h1,h2,h3⟩ | ⟨h1,h2⟩
   ·exact .inl ⟨k,by omega,h2,h3⟩
   ·refine .inr ⟨fun k hk2=>?_,h2⟩
    by_cases hkn:k=n
    ·subst hkn;omega
    ·exact h1 k (by omega)
theorem Xgl{B:Int}{homes:List (List Int)}:∀(hs:List (List Int))(i:Int)(fixed:List Bool)(bs:List Int),(∀l∈hs,∀b∈l,0≤b∧b<B)→(fixed.length:Int)=B→GreedyL homes i hs fixed bs→
  bs.length=hs.length∧(∀k,k<bs.length→bs.getD k 0∈hs.getD k [])∧bs.Nodup∧∀b∈bs,(0≤b∧b<B)∧at' false fixed b=false
 | [],i,fixed,bs,_,_,hg=>by cases hg;exact⟨rfl,by simp,by simp,by simp⟩
 |l::hs,i,fixed,bs,hr,hf,⟨pre,b,post,bs',e0,e1,f1,n1,p1,g1⟩=>by
  subst e0
  obtain⟨b0,b1⟩:=hr l List.mem_cons_self b (by rw[e1];simp)
  obtain⟨h1,h2,h3,h4⟩:=Xgl hs (i+1) (fixed.set b.toNat true) bs' (fun x hx=>hr x (List.mem_cons_of_mem _ hx)) (by rw[List.length_set];exact hf) g1
  refine⟨by simp [h1],fun k hk=>?_,List.nodup_cons.2 ⟨fun hm=>?_,h3⟩,fun c hc=>?_⟩
  ·cases k with
   |zero=>rw[List.getD_cons_zero,List.getD_cons_zero,e1];simp
   |succ k=>rw[List.getD_cons_succ,List.getD_cons_succ];exact h2 k (by simpa using hk)
  ·have:=(h4 b hm).2
   rw[X68 false b0 (by omega) b0,if_pos rfl] at this
   cases this
  ·rcases List.mem_cons.1 hc with rfl |hc
   ·exact⟨⟨b0,b1⟩,f1⟩
   ·obtain⟨⟨c0,c1⟩,h5⟩:=h4 c hc
    refine⟨⟨c0,c1⟩,?_⟩
    rw[X68 false b0 (by omega) c0] at h5
    split at h5
    ·cases h5
    ·exact h5
theorem first35{B:Int}{H:List (List Int)}(hh:HomesOK B H)(hB:1≤B∧B≤64)(hn:(H.length:Int)≤1000):
  (Xay H B 1=some ([],false)∧H≠[])∨∃bs,Xay H B 1=some (bs,true)∧bs.length=H.length∧(∀k,k<bs.length→bs.getD k 0∈H.getD k [])∧bs.Nodup∧∀b∈bs,0≤b∧b<B:=by
 unfold Xay
 rw[lmk_ok (by omega) (by omega),Option.bind_some]
 have hu:UsedOf B (List.replicate B.toNat false) (List.replicate B.toNat 0):=⟨by simp;omega,by simp;omega,fun b b0 b1=>by
  rw[Xl4 _ _ b0 (by omega),Xl4 _ _ b0 (by omega)];rfl⟩
 obtain⟨r,r1,r2⟩:=Xom hh (by omega) hu
 rw[r1,Option.bind_some]
 cases r with
 |false=>
  refine .inl ⟨rfl,fun hnil=>?_⟩
  subst hnil
  exact absurd (r2.2 ⟨fun _=>0,fun j h0 h1=>by simp at h1;omega,fun j k h0 h1 h2 h3=>by simp at h1;omega⟩) (by simp)
 |true=>
  right
  rw[if_neg (by decide)]
  have hp:Placeable H (List.replicate B.toNat false) ((0:Nat):Int):=r2.1 rfl
  obtain⟨bs,b1,b2⟩:=Xl6 (B:=B) (homes:=H) hh (by omega) (by omega) H 0 (List.replicate B.toNat false) (List.replicate B.toNat 0) [] List.drop_zero hu List.length_nil (Nat.zero_le _) hp
  obtain⟨g1,g2,g3,g4⟩:=Xgl _ _ _ bs hh (by simp;omega) b2
  exact⟨bs,b1,g1,g2,g3,fun b hb=>(g4 b hb).1⟩
theorem Xmk{h:Hsh}(hk:HshOK h){l:List Ent}(hl:l.length≤1000)(hl2:l.length≤256)(hv:∀e∈l,EntOK e)(ha:AscE l):
  (∃r,X7l h 1 l=some (r,15)∧l≠[])∨∃E bs,X7l h 1 l=some ((h,1,E),0)∧bs.length=l.length∧bs.Nodup∧(∀k,k<bs.length→bs.getD k 0∈homeL h (sumI (l.getD k (ByteArray.empty,0)).1))∧Held h.1 l bs bs.length E:=by
 unfold X7l
 rw[rcheck,ccheck hk,Option.bind_some,if_neg (by decide),if_neg (by omega),if_neg (by omega)]
 rw[show(Xf (Xg 1 h.2) l l 0 ([]:List Ent) 0 0 h.1)=Xg 1 h.2 l 0 0 h.1 from Xqq _ 0 0 h.1 l hl hv ha l [] rfl]
 unfold Xg
 rw[Xmj hk _ 0 0 l [] (by simp;omega) hv,List.nil_append]
 unfold X57
 obtain⟨B1,B2,P1,P2,P3⟩:=id hk
 have hh:HomesOK h.1 (l.map fun e=>homeL h (sumI e.1)):=fun x hx b hb=>by
  obtain⟨e,he,rfl⟩:=List.mem_map.1 hx
  exact Xed hk _ b hb
 rcases first35 hh ⟨B1,B2⟩ (by simp;omega) with ⟨r1,r2⟩ | ⟨bs,r1,g1,g2,g3,g4⟩
 ·rw[r1,Option.bind_some]
  exact .inl ⟨_,rfl,fun hnil=>r2 (by rw[hnil];rfl)⟩
 ·right
  rw[r1,Option.bind_some]
  dsimp only
  rw[if_neg (by decide),Xe (by simp;omega),Option.bind_some,lmk_ok (by omega) (by omega),Option.bind_some,List.nil_append]
  rw[List.length_map] at g1
  unfold Xbc
  obtain⟨E,e1,e2⟩:=Xov hk (X55 h.2) l h.1 1 0 0 h.1 (bs:=bs) g1 hl g4 g3 bs 0 (List.replicate h.1.toNat []) rfl (by omega) ⟨by simp;omega,fun b hb=> .inr ⟨fun k hk=>by omega,by rw[List.getD_eq_getElem?_getD,List.getElem?_replicate,if_pos (by omega)];rfl⟩⟩
  rw[e1]
  refine⟨E,bs,rfl,g1,g3,fun k hk2=>?_,e2⟩
  have:=g2 k hk2
  rw[List.getD_eq_getElem?_getD,List.getElem?_map,List.getElem?_eq_getElem (show k<l.length by omega)] at this
  rw[List.getD_eq_getElem?_getD (l:=l),List.getElem?_eq_getElem (show k<l.length by omega)]
  exact this
end Go.Proofs.YtmfppphlhgneeaaGreat
end

section
namespace Go.Proofs.YtmfppphlhgneeaaGreat
set_option linter.unusedVariables false
set_option maxRecDepth 100000
def K6:List ByteArray:=[⟨#[97,110,116]⟩,⟨#[98,101,101]⟩,⟨#[99,97,116]⟩,⟨#[100,111,103]⟩,⟨#[101,101,108]⟩,⟨#[102,111,120]⟩]
theorem k6_asc1:X9r K6=some true:=by kernel_rfl
theorem k6_asc:AscP K6:=by
 have h:=k6_asc1
 rw[Xol (by decide)] at h
 exact of_decide_eq_true (Option.some.inj h)
theorem k6_len:K6.length=6:=rfl
def GoodE(n:Nat)(e:Ent):Prop:=∃i r:Nat,i<n∧i<6∧r<90∧e=(gd K6 i,(i:Int)*100+r)
theorem GoodE.ok{n:Nat}{e:Ent}(h:GoodE n e):EntOK e:=by
 obtain⟨i,r,h1,h2,h3,rfl⟩:=h
 exact⟨(k6_asc i (by rw[k6_len];omega)).1,by dsimp only;omega,by dsimp only;omega⟩
structure DirP(x:Hsh×Int×List (List Ent))(l:List Ent):Prop where
 hk:HshOK x.1
 one:x.2.1=1
 few:l.length≤3
 good:∀e∈l,GoodE 6 e
 asc:AscE l
 held:∃bs:List Int,bs.length=l.length∧bs.Nodup∧(∀k,k<bs.length→bs.getD k 0∈homeL x.1 (sumI (l.getD k (ByteArray.empty,0)).1))∧Held x.1.1 l bs bs.length x.2.2
theorem Xur{l:List Ent}(hl:l.length≤3)(hg:∀e∈l,GoodE 6 e)(ha:AscE l)(a b:Int){d:List Int×Int}(hd:DiceOK d):
  ∃x l' e,Xw l a b d.1 d.2=some (x,l',e)∧DirP x l'∧DiceOK e:=by
 unfold Xw
 obtain⟨v0,e0,h0,a0,b0,c0⟩:=dpick (d:=(d.1,d.2)) hd (n:=4) (by omega)
 rw[h0,Option.bind_some]
 obtain⟨v1,e1,h1,a1,b1,c1⟩:=dpick c0 (n:=9) (by omega)
 rw[h1,Option.bind_some]
 obtain⟨v2,e2,h2,a2,b2,c2⟩:=dpick c1 (n:=9) (by omega)
 rw[h2,Option.bind_some]
 obtain⟨v3,e3,h3,a3,b3,c3⟩:=dpick c2 (n:=9) (by omega)
 rw[h3,Option.bind_some]
 obtain⟨v4,e4,h4,a4,b4,c4⟩:=dpick c3 (n:=9) (by omega)
 rw[h4,Option.bind_some]
 obtain⟨v5,e5,h5,a5,b5,c5⟩:=dpick c4 (n:=9) (by omega)
 rw[h5,Option.bind_some]
 dsimp only
 rw[w64_id (x:=5+v0) (by omega) (by omega),w64_id (x:=1+v1) (by omega) (by omega),w64_id (x:=11+v3) (by omega) (by omega)]
 have hk:HshOK ((5+v0),([((1+v1),v2),((11+v3),v4),(31,v5)]:List (Int×Int))):=by
  refine⟨by dsimp only;omega,by dsimp only;omega,by simp,by simp,fun p hp=>?_⟩
  simp only [List.mem_cons,List.not_mem_nil,or_false] at hp
  unfold PairOK
  rcases hp with rfl |rfl |rfl<;>dsimp only<;>omega
 generalize ((5+v0),([((1+v1),v2),((11+v3),v4),(31,v5)]:List (Int×Int)))=h at hk
 rcases Xmk hk (l:=l) (by omega) (by omega) (fun e he=>(hg e he).ok) ha with ⟨r,k1,k2⟩ | ⟨E,bs,k1,k2,k3,k4,k5⟩
 ·rw[k1,Option.bind_some]
  dsimp only
  rw[if_pos (by decide)]
  rcases Xmk hk (l:=[]) (by simp) (by simp) (by simp) List.Pairwise.nil with ⟨r,k1,k2⟩ | ⟨E,bs,k1,k2,k3,k4,k5⟩
  ·exact absurd rfl k2
  ·rw[k1,Option.bind_some]
   exact⟨(h,1,E),[],e5,rfl,⟨hk,rfl,by simp,by simp,List.Pairwise.nil,bs,k2,k3,k4,k5⟩,c5⟩
 ·rw[k1,Option.bind_some]
  dsimp only
  rw[if_neg (by decide)]
  exact⟨(h,1,E),l,e5,rfl,⟨hk,rfl,hl,hg,ha,bs,k2,k3,k4,k5⟩,c5⟩
theorem Xsa:∀(xs:List ByteArray)(i:Nat)(l:List Ent)(d:List Int×Int),K6.drop i=xs→i≤6→l.length≤3→(∀e∈l,GoodE i e)→AscE l→DiceOK d→
  ∃x l' e,X2c Xw xs i l d.1 d.2=some (x,l',e)∧DirP x l'∧DiceOK e
 | [],i,l,d,hx,hi,hl,hg,ha,hd=>Xur hl (fun e he=>by
   obtain⟨j,r,h1,h2,h3,h4⟩:=hg e he
   exact⟨j,r,by omega,h2,h3,h4⟩) ha 0 0 hd
 |w::xs,i,l,d,hx,hi,hl,hg,ha,hd=>by
  show ∃x l' e,X4y Xw (X2c Xw xs (i+1)) w i l d.1 d.2=_∧_
  obtain⟨hi6,hw⟩:=Xok hx
  rw[k6_len] at hi6
  have hx':K6.drop (i+1)=xs:=by rw[← List.drop_drop,hx];rfl
  have hg':∀e∈l,GoodE (i+1) e:=fun e he=>by
   obtain⟨j,r,h1,h2,h3,h4⟩:=hg e he
   exact⟨j,r,by omega,h2,h3,h4⟩
  unfold X4y
  obtain⟨v0,e0,h0,a0,b0,c0⟩:=dpick (d:=(d.1,d.2)) hd (n:=2) (by omega)
  rw[h0,Option.bind_some]
  dsimp only
  split
  ·rename_i hc
   obtain⟨v1,e1,h1,a1,b1,c1⟩:=dpick c0 (n:=90) (by omega)
   rw[h1,Option.bind_some,Xe (by simp;omega),Option.bind_some,w64_id (x:=(i:Int)*100) (by omega) (by omega),w64_id (by omega) (by omega)]
   refine Xsa xs (i+1) _ e1 hx' (by omega) (by simp;omega) (fun e he=>?_) ?_ c1
   ·rcases List.mem_append.1 he with h |h
    ·exact hg' e h
    ·rw[List.mem_singleton.1 h]
     exact⟨i,v1.toNat,by omega,hi6,by omega,by rw[hw,Int.toNat_of_nonneg (by omega)]⟩
   ·refine List.pairwise_append.2 ⟨ha,List.pairwise_singleton _ _,fun a hma b hmb=>?_⟩
    rw[List.mem_singleton.1 hmb]
    obtain⟨j,r,g1,g2,g3,rfl⟩:=hg a hma
    rw[hw]
    exact Xqm k6_asc g1 (by rw[k6_len];omega)
  ·exact Xsa xs (i+1) l e0 hx' (by omega) hl hg' ha c0
theorem Xus{d:List Int×Int}(hd:DiceOK d):∃x l e,Xa9 d=some (x,l,e)∧DirP x l∧DiceOK e:=by
 exact Xsa K6 0 [] d rfl (by omega) (by simp) (by simp) List.Pairwise.nil hd
theorem Xl9(h:Hsh)(n:Int):(homeL h n).length=h.2.length:=by simp [homeL]
end Go.Proofs.YtmfppphlhgneeaaGreat
end

section
namespace Go.Proofs.YtmfppphlhgneeaaGreat
set_option linter.unusedVariables false
set_option maxRecDepth 100000
def chk(c:List Ent):Bool:=match X2z 1 c with
 |some (t,e)=>decide (e=0) && decide (t.size=37) && decide (X7a 1 t=some (c,0))
 |none=>false
theorem chkN:chk []=true:=by kernel_rfl
theorem chk0:((List.range 90).all fun r=>chk [(gd K6 0,((0:Nat):Int)*100+(r:Int))])=true:=by kernel_rfl
theorem chk1:((List.range 90).all fun r=>chk [(gd K6 1,((1:Nat):Int)*100+(r:Int))])=true:=by kernel_rfl
end Go.Proofs.YtmfppphlhgneeaaGreat
end

section
namespace Go.Proofs.YtmfppphlhgneeaaGreat
set_option linter.unusedVariables false
set_option maxRecDepth 100000
theorem chk2:((List.range 90).all fun r=>chk [(gd K6 2,((2:Nat):Int)*100+(r:Int))])=true:=by kernel_rfl
theorem chk3:((List.range 90).all fun r=>chk [(gd K6 3,((3:Nat):Int)*100+(r:Int))])=true:=by kernel_rfl
end Go.Proofs.YtmfppphlhgneeaaGreat
end

section
namespace Go.Proofs.YtmfppphlhgneeaaGreat
set_option linter.unusedVariables false
set_option maxRecDepth 100000
theorem chk4:((List.range 90).all fun r=>chk [(gd K6 4,((4:Nat):Int)*100+(r:Int))])=true:=by kernel_rfl
theorem chk5:((List.range 90).all fun r=>chk [(gd K6 5,((5:Nat):Int)*100+(r:Int))])=true:=by kernel_rfl
end Go.Proofs.YtmfppphlhgneeaaGreat
end

section
namespace Go.Proofs.YtmfppphlhgneeaaGreat
set_option linter.unusedVariables false
open Classical in
noncomputable def bad (h:Hsh) (s:List Int):Bool:=decide (h.1<s.length∨¬Placeable (s.map (homeL h)) (nofix h) 0)
end Go.Proofs.YtmfppphlhgneeaaGreat
end

section
namespace Go.Proofs.YtmfppphlhgneeaaGreat
set_option linter.unusedVariables false
set_option maxRecDepth 100000
theorem chkE{e:Ent}(h:GoodE 6 e):chk [e]=true:=by
 obtain⟨i,r,h1,h2,h3,rfl⟩:=h
 have hr:=List.mem_range.2 h3
 rcases(by omega:i=0∨i=1∨i=2∨i=3∨i=4∨i=5) with rfl |rfl |rfl |rfl |rfl |rfl
 ·exact List.all_eq_true.1 chk0 r hr
 ·exact List.all_eq_true.1 chk1 r hr
 ·exact List.all_eq_true.1 chk2 r hr
 ·exact List.all_eq_true.1 chk3 r hr
 ·exact List.all_eq_true.1 chk4 r hr
 ·exact List.all_eq_true.1 chk5 r hr
theorem Xsb(f:Int→Option Bool):∀(l:List Int)(i:Nat),(∀x∈l,f x=some false)→Xl f l i=some (-1)
 | [],i,_=>rfl
 |x::l,i,h=>by
  rw[Xl]
  unfold X2b
  rw[h x List.mem_cons_self,Option.bind_some,if_neg (by decide)]
  exact Xsb f l (i+1) fun y hy=>h y (List.mem_cons_of_mem _ hy)
def rowI(c:List Ent):List Int:=((X2z 1 c).bind fun t=>tobs t.1).getD []
theorem Xsc(s:ByteArray):ofB (toB s)=s:=by
 obtain⟨⟨d⟩⟩:=s
 unfold ofB toB
 have e:(List.map (fun n:Int=>UInt8.ofNat n.toNat) (List.map (fun c:UInt8=>((c.toNat:Nat):Int)) d))=d:=by
  rw[List.map_map]
  conv=>rhs;rw[← List.map_id d]
  exact List.map_congr_left fun c _=>by
   show UInt8.ofNat ((c.toNat:Int).toNat)=c
   rw[Int.toNat_natCast,UInt8.ofNat_toNat]
 show(⟨(List.map (fun n:Int=>UInt8.ofNat n.toNat) (List.map (fun c:UInt8=>((c.toNat:Nat):Int)) d)).toArray⟩:ByteArray)=_
 rw[e]
theorem Xlr{s:ByteArray}{x:Int}(h:x∈toB s):0≤x∧x<256:=by
 unfold toB at h
 obtain⟨c,_,rfl⟩:=List.mem_map.1 h
 have:=c.toNat_lt
 omega
theorem Xsd(s:ByteArray):(toB s).length=s.size:=by unfold toB;rw[List.length_map];rfl
theorem Xow(a:List Int)(ha:a.length≤1000)(hr:∀x∈a,0≤x∧x<256):∀(xs:List Int)(i:Nat),a.drop i=xs→i≤a.length→
  X27 X26 xs i (a.take i++List.replicate (a.length-i) 0)=some (ofB a,true)
 | [],i,h,hi=>by
  have:a.length≤i:=List.drop_eq_nil_iff.1 h
  rw[X27]
  unfold X26
  rw[List.take_of_length_le this,Nat.sub_eq_zero_of_le this]
  simp
 |x::xs,i,h,hi=>by
  have hlt:i<a.length:=by
   rcases Nat.lt_or_ge i a.length with h' |h'
   ·exact h'
   ·rw[List.drop_eq_nil_of_le h'] at h;cases h
  rw[X27]
  unfold X8j
  have hx:=hr x (List.mem_of_mem_drop (i:=i) (by rw[h];exact List.mem_cons_self))
  rw[Xbg 0 (by simp;omega),Option.bind_some,X67 (by omega) (by simp;omega),Option.bind_some,Xsl hx.1 (by omega),Int.toNat_natCast]
  have e:(a.take i++List.replicate (a.length-i) 0).set i x=a.take (i+1)++List.replicate (a.length-(i+1)) 0:=by
   rw[List.set_append_right _ _ (by simp;omega),show a.length-i=(a.length-(i+1))+1 by omega,List.replicate_succ]
   have e1:i-(a.take i).length=0:=by simp;omega
   rw[e1,List.set_cons_zero,List.take_succ_eq_append_getElem hlt,List.append_assoc]
   rw[List.drop_eq_getElem_cons hlt] at h
   rw[(List.cons.inj h).1];rfl
  rw[e]
  exact Xow a ha hr xs (i+1) (by rw[← List.drop_drop,h];rfl) hlt
theorem Xg7{c:List Ent}(h:chk c=true):∃t,X2z 1 c=some (t,0)∧tobs t=some (rowI c)∧(rowI c).length=37∧(∀x∈rowI c,0≤x∧x<256)∧X79 (rowI c)=some (t,true)∧X7a 1 t=some (c,0):=by
 unfold chk at h
 cases h1:X2z 1 c with
 |none=>rw[h1] at h;cases h
 |some p=>
  obtain⟨t,e⟩:=p
  rw[h1] at h
  simp only [Bool.and_eq_true,decide_eq_true_eq] at h
  obtain⟨⟨rfl,h3⟩,h6⟩:=h
  have h2:tobs t=some (toB t):=by unfold tobs;rw[if_pos (by omega)]
  have e:rowI c=toB t:=by unfold rowI;rw[h1,Option.bind_some,h2];rfl
  rw[e]
  have hl:=Xsd t
  refine⟨t,rfl,h2,by omega,fun x hx=>Xlr hx,?_,h6⟩
  unfold X79 X12 X23
  rw[Xsb _ _ 0 (fun x hx=>by
   have:=Xlr hx
   unfold X8i
   rw[decide_eq_false (by omega)]),Option.bind_some,Option.bind_some,if_neg (by decide),lmk_ok (by omega) (by omega),Option.bind_some]
  have:=Xow (toB t) (by omega) (fun x hx=>Xlr hx) (toB t) 0 rfl (by omega)
  rw[Xsc] at this
  exact this
structure BkP(h:Hsh)(l:List Ent)(E:List (List Ent)):Prop where
 len:(E.length:Int)=h.1
 f2:∀b,b<E.length→E.getD b []=[]∨∃e∈l,E.getD b []=[e]∧(b:Int)∈homeL h (sumI e.1)
 f3:∀b b' e e',b<E.length→b'<E.length→E.getD b []=[e]→E.getD b' []=[e']→e.1=e'.1→b=b'
 f4:∀e∈l,∃b,b<E.length∧E.getD b []=[e]
 f5:∀e∈l,∀e'∈l,e.1=e'.1→e=e'
theorem Xox{l:List Ent}(ha:AscE l){i j:Nat}(hi:i<l.length)(hj:j<l.length)(h:(l.getD i (ByteArray.empty,0)).1=(l.getD j (ByteArray.empty,0)).1):i=j:=by
 rw[List.getD_eq_getElem?_getD,List.getD_eq_getElem?_getD,List.getElem?_eq_getElem hi,List.getElem?_eq_getElem hj] at h
 have h':(l[i]).1=(l[j]).1:=h
 rcases Nat.lt_trichotomy i j with c |c |c
 ·have:=List.pairwise_iff_getElem.1 ha i j hi hj c
  rw[h'] at this
  exact absurd this (Xgx _)
 ·exact c
 ·have:=List.pairwise_iff_getElem.1 ha j i hj hi c
  rw[h'] at this
  exact absurd this (Xgx _)
theorem bkp{x:Hsh×Int×List (List Ent)}{l:List Ent}(h:DirP x l):BkP x.1 l x.2.2:=by
 obtain⟨bs,b1,b2,b3,b4,b5⟩:=h.held
 have hmem:∀k,k<l.length→l.getD k (ByteArray.empty,0)∈l:=fun k hk=>by
  rw[List.getD_eq_getElem?_getD,List.getElem?_eq_getElem hk];exact List.getElem_mem _
 have hk:=h.hk
 refine⟨b4,fun b hb=>?_,fun b b' e e' hb hb' he he' hee=>?_,fun e he=>?_,fun e he e' he' hee=>?_⟩
 ·rcases b5 b (by omega) with ⟨k,k1,k2,k3⟩ | ⟨k1,k2⟩
  ·exact .inr ⟨_,hmem k (by omega),k3,by rw[← k2];exact b3 k k1⟩
  ·exact .inl k2
 ·rcases b5 b (by omega) with ⟨k,k1,k2,k3⟩ | ⟨k1,k2⟩
  ·rcases b5 b' (by omega) with ⟨q,q1,q2,q3⟩ | ⟨q1,q2⟩
   ·rw[k3] at he
    rw[q3] at he'
    have e1:=(List.cons.inj he).1
    have e2:=(List.cons.inj he').1
    have:=Xox h.asc (i:=k) (j:=q) (by omega) (by omega) (by rw[e1,e2];exact hee)
    subst this
    omega
   ·rw[q2] at he';cases he'
  ·rw[k2] at he;cases he
 ·obtain⟨k,hk1,rfl⟩:=List.mem_iff_getElem.1 he
  have hb:=Xed hk _ _ (b3 k (by omega))
  refine⟨(bs.getD k 0).toNat,by omega,?_⟩
  rcases b5 (bs.getD k 0).toNat (by omega) with ⟨q,q1,q2,q3⟩ | ⟨q1,q2⟩
  ·have e:q=k:=by
    rw[Int.toNat_of_nonneg hb.1,List.getD_eq_getElem?_getD,List.getD_eq_getElem?_getD,List.getElem?_eq_getElem q1,List.getElem?_eq_getElem (show k<bs.length by omega)] at q2
    have q2':bs[q]=bs[k]:=q2
    rcases Nat.lt_trichotomy q k with c |c |c
    ·exact absurd q2' (List.pairwise_iff_getElem.1 b2 q k _ _ c)
    ·exact c
    ·exact absurd q2'.symm (List.pairwise_iff_getElem.1 b2 k q _ _ c)
   subst e
   rw[q3,List.getD_eq_getElem?_getD,List.getElem?_eq_getElem hk1];rfl
  ·exact absurd (by omega) (q1 k (by omega))
 ·obtain⟨k,hk1,rfl⟩:=List.mem_iff_getElem.1 he
  obtain⟨q,hq1,rfl⟩:=List.mem_iff_getElem.1 he'
  have:=Xox h.asc (i:=k) (j:=q) hk1 hq1 (by
   rw[List.getD_eq_getElem?_getD,List.getD_eq_getElem?_getD,List.getElem?_eq_getElem hk1,List.getElem?_eq_getElem hq1];exact hee)
  subst this
  rfl
theorem Xla{β:Type}(k:ByteArray)(v:β)(k':ByteArray):∀l:List (ByteArray×β),mget (mput l k v) k'=if k=k' then some v else mget l k'
 | []=>by simp [mput,mget]
 | (a,b)::l=>by
  have ih:=Xla k v k' l
  by_cases h1:a=k
  ·subst h1
   simp only [mput,if_pos,mget]
   by_cases h2:a=k'
   ·simp [h2]
   ·simp [h2]
  ·simp only [mput,if_neg h1,mget]
   by_cases h2:a=k'
   ·subst h2
    rw[if_pos rfl,if_pos rfl,if_neg (fun h=>h1 h.symm)]
   ·rw[if_neg h2,if_neg h2,ih]
theorem Xoy(e:Ent):Xa5 e=some (decide (EntOK e)):=by
 rw[show Xa5 e=Xax e from rfl,Xl8]
theorem Xpp:X4h []=some true:=rfl
theorem Xpq{e:Ent}(h:EntOK e):X4h [e]=some true:=by
 unfold X4h
 rw[X3h]
 unfold X7c
 rw[Xoy,Option.bind_some,if_neg (nb_t h),if_neg (by omega),Option.bind_some,Option.bind_some,if_neg (by decide)]
 rfl
theorem Xk2{h:Hsh}(hk:HshOK h){l:List Ent}{E:List (List Ent)}(hb:BkP h l E)(hv:∀e∈l,EntOK e):∀(xs:List (List Ent))(i:Nat)(v:List (ByteArray×Bool)),E.drop i=xs→(∀k,(mget v k).getD false=true→∃b e,b<i∧b<E.length∧E.getD b []=[e]∧e.1=k)→
  X1n h.2 xs i v h.1 1=some 0
 | [],i,v,_,_=>rfl
 |c::xs,i,v,hd,hs=>by
  have hlt:i<E.length:=by
   rcases Nat.lt_or_ge i E.length with h |h
   ·exact h
   ·rw[List.drop_eq_nil_of_le h] at hd;cases hd
  have hc:E.getD i []=c:=by
   rw[List.drop_eq_getElem_cons hlt] at hd
   rw[List.getD_eq_getElem?_getD,List.getElem?_eq_getElem hlt]
   exact(List.cons.inj hd).1
  have hd':E.drop (i+1)=xs:=by rw[← List.drop_drop,hd];rfl
  show X6o h.2 (X1n h.2 xs (i+1)) c i v h.1 1=_
  unfold X6o
  rcases hb.f2 i hlt with h1 | ⟨e,he,h1,h2⟩
  ·rw[hc] at h1
   subst h1
   rw[if_neg (by simp),Xpp,Option.bind_some,Option.bind_some,if_neg (by decide)]
   exact Xk2 hk hb hv xs (i+1) v hd' fun k hk2=>by
    obtain⟨b,e,g1,g2,g3,g4⟩:=hs k hk2
    exact⟨b,e,by omega,g2,g3,g4⟩
  ·have hc':=h1
   rw[hc] at h1
   subst h1
   rw[if_neg (by simp),Xpq (hv e he),Option.bind_some,Option.bind_some,if_neg (by decide)]
   show X6m _ _ _ _ _ _ _ _=_
   unfold X6m
   rw[if_neg (fun hm=>by
    obtain⟨b,e',g1,g2,g3,g4⟩:=hs _ hm
    have:=hb.f3 b i e' e g2 hlt g3 hc' g4
    omega),show((h.1,h.2):Hsh)=h from rfl,Xl7 hk (by have:=(hv e he).1.2;omega),Option.bind_some]
   obtain⟨r,r1,r2⟩:=Xlq (homeL h (sumI e.1)) (i:Int)
   rw[r1,Option.bind_some,r2.2 h2,Option.bind_some,if_neg (by decide)]
   refine Xk2 hk hb hv xs (i+1) _ hd' fun k hk2=>?_
   rw[Xla] at hk2
   split at hk2
   ·rename_i hek
    exact⟨i,e,by omega,hlt,hc',hek⟩
   ·obtain⟨b,e',g1,g2,g3,g4⟩:=hs k hk2
    exact⟨b,e',by omega,g2,g3,g4⟩
theorem Xoz{x:Hsh×Int×List (List Ent)}{l:List Ent}(h:DirP x l):Xa8 x=some 0:=by
 unfold Xa8
 rw[ccheck h.hk,Option.bind_some,if_neg (by decide),h.one]
 rw[show X60 1=some true from rfl,Option.bind_some,Option.bind_some,if_neg (by
  have:=(bkp h).len
  intro hc
  rcases hc with hc |hc
  ·cases hc
  ·exact hc this)]
 exact Xk2 h.hk (bkp h) (fun e he=>(h.good e he).ok) x.2.2 0 [] rfl (fun k hk=>by simp [mget] at hk)
abbrev TR:=(Int×Int×Int×(List (List Int)))×Int
theorem Xqr(kx:List Int→Int→Int→Int→Int→Int→Int→Option TR)(a b c d e f:Int):∀(xs acc:List Int),(∀x∈xs,0≤x∧x<256)→acc.length+xs.length≤1000→
  X35 kx a b c d e f xs acc=kx (acc++xs) a b c d e f
 | [],acc,_,_=>by simp [X35]
 |x::xs,acc,h,hl=>by
  show X7g kx a b c d e f (X35 kx a b c d e f xs) x acc=_
  unfold X7g
  simp only [List.length_cons] at hl
  have:=h x List.mem_cons_self
  rw[w64_id (by omega) (by omega),Xe (by simp;omega),Option.bind_some,Xqr kx a b c d e f xs _ (fun y hy=>h y (List.mem_cons_of_mem _ hy)) (by simp;omega)]
  simp
theorem Xqs(kx:List (List Int)→Int→Int→Int→Int→Int→Int→Option TR)(a b c d f:Int):∀(xs:List (List Ent))(acc:List (List Int)),(∀x∈xs,chk x=true)→acc.length+xs.length≤1000→
  X18 kx xs acc a b c d 1 f=kx (acc++xs.map rowI) a b c d 1 f
 | [],acc,_,_=>by simp [X18]
 |x::xs,acc,h,hl=>by
  show X7h kx (X18 kx xs) x acc a b c d 1 f=_
  unfold X7h
  simp only [List.length_cons] at hl
  obtain⟨t,t1,t2,t3,t4,t5,t6⟩:=Xg7 (h x List.mem_cons_self)
  rw[t1,Option.bind_some]
  dsimp only
  rw[if_neg (by decide),t2,Option.bind_some,Xqr _ _ _ _ _ _ _ _ _ t4 (by simp;omega)]
  unfold X4i
  rw[List.nil_append,Xe (by simp;omega),Option.bind_some,Xqs kx a b c d f xs _ (fun y hy=>h y (List.mem_cons_of_mem _ hy)) (by simp;omega)]
  simp
theorem Xse{l:List Int}(h:∀x∈l,0≤x∧x<256):X61 257 l=some true:=by
 unfold X61 X12 X23
 rw[Xsb _ l 0 (fun x hx=>by
  have:=h x hx
  unfold X5w X8e
  rw[Option.bind_some,decide_eq_true (by omega)];rfl)]
 rfl
theorem tcheck_L:∀xs:List (List Int),(∀r∈xs,r.length=37∧∀x∈r,0≤x∧x<256)→X53 257 37 xs=some 0
 | [],_=>rfl
 |r::xs,h=>by
  show X8o 257 37 (X53 257 37 xs) r=_
  unfold X8o
  obtain⟨h1,h2⟩:=h r List.mem_cons_self
  rw[if_neg (by omega),Xse h2,Option.bind_some,if_neg (by decide)]
  exact tcheck_L xs fun y hy=>h y (List.mem_cons_of_mem _ hy)
theorem res257:Xdl 257=some (257,true):=by kernel_rfl
theorem fld257:Xdy 257=some 0:=by kernel_rfl
theorem Xml(kx:Int→Int→Int→List (List Int)→Int→Int→Int→Int→Option TR)(a b c:Int):∀(xs acc:List (List Int)),(∀r∈xs,r.length≤1000)→acc.length+xs.length≤1000→
  X69 kx a b c xs acc=kx a b c (acc++xs) 0 0 0 b
 | [],acc,_,_=>by simp [X69]
 |r::xs,acc,h,hl=>by
  show Xbj kx a b c (X69 kx a b c xs) r acc=_
  unfold Xbj X5v
  simp only [List.length_cons] at hl
  have:=h r List.mem_cons_self
  rw[Xe (by simp;omega),Option.bind_some,Option.bind_some,Xe (by simp;omega),Option.bind_some,List.nil_append,Xml kx a b c xs _ (fun y hy=>h y (List.mem_cons_of_mem _ hy)) (by simp;omega)]
  simp
theorem Xmm{x:Hsh×Int×List (List Ent)}{l:List Ent}(h:DirP x l):X9q 1 257 x=some ((1,257,37,x.2.2.map rowI),0)∧(∀c∈x.2.2,chk c=true)∧x.2.2.length≤64:=by
 have hb:=bkp h
 have hB:=h.hk.2.1
 have hlen:=hb.len
 have hc:∀c∈x.2.2,chk c=true:=fun c hm=>by
  obtain⟨i,hi,rfl⟩:=List.mem_iff_getElem.1 hm
  have e:x.2.2.getD i []=x.2.2[i]:=by rw[List.getD_eq_getElem?_getD,List.getElem?_eq_getElem hi];rfl
  rcases hb.f2 i hi with h1 | ⟨e',he,h1,h2⟩
  ·rw[← e,h1];exact chkN
  ·rw[← e,h1];exact chkE (h.good e' he)
 refine⟨?_,hc,by omega⟩
 have hr:∀r∈x.2.2.map rowI,r.length=37∧∀y∈r,0≤y∧y<256:=fun r hm=>by
  obtain⟨c,hm2,rfl⟩:=List.mem_map.1 hm
  obtain⟨t,t1,t2,t3,t4,t5,t6⟩:=Xg7 (hc c hm2)
  exact⟨t3,t4⟩
 unfold X9q
 rw[Xoz h,Option.bind_some,if_neg (by decide),fld257,Option.bind_some,if_neg (by decide),h.one]
 rw[show X7f 1=some 37 by kernel_rfl,Option.bind_some,if_neg (by decide),Xqs _ _ _ _ _ _ x.2.2 [] hc (by simp;omega),List.nil_append]
 unfold X1j
 rw[show X7f 1=some 37 by kernel_rfl,Option.bind_some]
 unfold Xfy Xdz
 dsimp only
 rw[res257,Option.bind_some,if_neg (by decide),if_neg (by decide),if_neg (by decide),if_neg (by rw[List.length_map];omega),tcheck_L _ hr,Option.bind_some,if_neg (by decide),Xml _ _ _ _ _ _ (fun r hm=>by have:=(hr r hm).1;omega) (by simp;omega)]
 rfl
end Go.Proofs.YtmfppphlhgneeaaGreat
end

section
namespace Go.Proofs.YtmfppphlhgneeaaGreat
set_option linter.unusedVariables false
set_option maxRecDepth 100000
abbrev Outc:=Int×List Int×List Int
def OutP:List (List Ent)→List Outc→Prop
 | [],[]=>True
 |c::cs,x::o=>(x.1=0∧x.2.1=rowI c∧chk c=true)∧OutP cs o
 |_,_=>False
theorem OutP.of:∀(cs:List (List Ent))(o:List Outc),o.length=cs.length→(∀t,t<cs.length→chk (cs.getD t [])=true∧∃wr,o[t]?=some (0,rowI (cs.getD t []),wr))→OutP cs o
 | [],[],_,_=>trivial
 | [],_::_,h,_=>by cases h
 |_::_,[],h,_=>by cases h
 |c::cs,x::o,hl,h=>by
  obtain⟨h1,wr,h2⟩:=h 0 (by simp)
  refine⟨?_,OutP.of cs o (by simpa using hl) fun t ht=>h (t+1) (by simpa using ht)⟩
  have:x=(0,rowI c,wr):=by simpa using h2
  subst this
  exact⟨rfl,rfl,h1⟩
def txB(c:List Ent):ByteArray:=((X2z 1 c).getD (ByteArray.empty,0)).1
theorem Xmn{c:List Ent}(h:chk c=true):X79 (rowI c)=some (txB c,true)∧X7a 1 (txB c)=some (c,0):=by
 obtain⟨t,t1,t2,t3,t4,t5,t6⟩:=Xg7 h
 have:txB c=t:=by unfold txB;rw[t1];rfl
 rw[this];exact⟨t5,t6⟩
theorem rd6(kx:Option (Int×Bool×Int)):∀(cs:List (List Ent))(o:List Outc),OutP cs o→X5s kx o=kx
 | [],[],_=>rfl
 | [],_::_,h=>h.elim
 |_::_,[],h=>h.elim
 |c::cs,x::o,h=>by
  show X99 kx (X5s kx o) x=_
  unfold X99
  rw[if_neg (by rw[h.1.1];decide),rd6 kx cs o h.2]
theorem Xk3{α:Type}{v:List α}{i:Nat}{x:α}(h:i<v.length):(v.set i x).take (i+1)=v.take i++[x]:=by
 rw[List.take_succ_eq_append_getElem (by simpa using h)]
 simp [List.take_set_of_le]
theorem rd4(kx:List ByteArray→Option (Int×Bool×Int)):∀(cs:List (List Ent))(o:List Outc)(i:Nat)(v:List ByteArray),OutP cs o→v.length=i+cs.length→v.length≤1000→X4d kx o i v=kx (v.take i++cs.map txB)
 | [],[],i,v,_,hl,_=>by
  rw[X4d,List.take_of_length_le (by simp at hl;omega)];simp
 | [],_::_,_,_,h,_,_=>h.elim
 |_::_,[],_,_,h,_,_=>h.elim
 |c::cs,x::o,i,v,h,hl,hv=>by
  simp only [List.length_cons] at hl
  show X98 kx (X4d kx o (i+1)) x i v=_
  unfold X98
  rw[h.1.2.1,(Xmn h.1.2.2).1,Option.bind_some,if_neg (by simp),Xbg ByteArray.empty (by omega),Option.bind_some,X67 (by omega) (by omega),Option.bind_some,Int.toNat_natCast]
  rw[rd4 kx cs o (i+1) _ h.2 (by simp;omega) (by simpa using hv)]
  congr 1
  rw[Xk3 (by omega)]
  simp
theorem rd2(kx:List (List Ent)→Option (Int×Bool×Int)):∀(cs acc:List (List Ent)),(∀c∈cs,chk c=true)→acc.length+cs.length≤1000→X4c kx 1 (cs.map txB) acc=kx (acc++cs)
 | [],acc,_,_=>by simp [X4c]
 |c::cs,acc,h,hl=>by
  show X97 kx 1 (X4c kx 1 (cs.map txB)) (txB c) acc=_
  unfold X97
  simp only [List.length_cons] at hl
  rw[(Xmn (h c List.mem_cons_self)).2,Option.bind_some]
  dsimp only
  rw[if_neg (by decide),Xe (by simp;omega),Option.bind_some,rd2 kx cs _ (fun y hy=>h y (List.mem_cons_of_mem _ hy)) (by simp;omega)]
  simp
theorem OutP.chk:∀(cs:List (List Ent))(o:List Outc),OutP cs o→∀c∈cs,chk c=true
 | [],_,_,_,h=>by cases h
 |_::_,[],h,_,_=>h.elim
 |c::cs,x::o,h,d,hd=>by
  rcases List.mem_cons.1 hd with rfl |hd
  ·exact h.1.2.2
  ·exact OutP.chk cs o h.2 d hd
theorem OutP.len:∀(cs:List (List Ent))(o:List Outc),OutP cs o→o.length=cs.length
 | [],[],_=>rfl
 | [],_::_,h=>h.elim
 |_::_,[],h=>h.elim
 |c::cs,x::o,h=>by simp [OutP.len cs o h.2]
theorem Xmo{cs:List (List Ent)}{o:List Outc}(h:OutP cs o)(hl:cs.length≤1000){w:ByteArray}(hw:KeyP w){r:Int×Bool}(hr:X13 w cs=some (r.1,r.2,0)):Xcz 1 w o=some (r.1,r.2,0):=by
 have ho:=h.len
 unfold Xcz
 rw[rd6 _ cs o h]
 unfold X5r
 rw[lmk_ok (by omega) (by omega),Option.bind_some,rd4 _ cs o 0 _ h (by simp;omega) (by simp;omega)]
 unfold X5q
 rw[List.take_zero,List.nil_append,rd2 _ cs [] h.chk (by simp;omega)]
 unfold X5p Xd9
 rw[List.nil_append,Xiv,Option.bind_some,if_neg (nb_t hw),hr]
 rfl
theorem Xmp{w:ByteArray}{e:Ent}(he:e.1=w):∀cs:List (List Ent),(∀c∈cs,c=[]∨∃e',c=[e']∧(e'.1=w→e'=e))→[e]∈cs→X13 w cs=some (e.2,true,0)
 | [],_,h=>by cases h
 |c::cs,hc,h=>by
  have ih:=Xmp he cs (fun d hd=>hc d (List.mem_cons_of_mem _ hd))
  rw[X13]
  unfold X89
  rcases hc c List.mem_cons_self with rfl | ⟨e',rfl,h'⟩
  ·rw[X2j]
   exact ih (by simpa using h)
  ·rw[X2j]
   unfold X88
   split
   ·rename_i h1
    rw[h' h1]
   ·rename_i h1
    rw[X2j]
    refine ih ?_
    rcases List.mem_cons.1 h with h2 |h2
    ·exact absurd ((List.cons.inj h2).1▸he) h1
    ·exact h2
theorem Xlb{w:ByteArray}:∀cs:List (List Ent),(∀c∈cs,c=[]∨∃e',c=[e']∧e'.1≠w)→X13 w cs=some (0,false,0)
 | [],_=>rfl
 |c::cs,hc=>by
  have ih:=Xlb cs (fun d hd=>hc d (List.mem_cons_of_mem _ hd))
  rw[X13]
  unfold X89
  rcases hc c List.mem_cons_self with rfl | ⟨e',rfl,h'⟩
  ·exact ih
  ·rw[X2j]
   unfold X88
   rw[if_neg h']
   exact ih
theorem Xp0{w:ByteArray}{e:Ent}(he:e.1=w)(kx:Int→Int→Int→Int→Int→Int→Int→Int→Int→Int→Int→Option Bool)(a b c d f g h i j k l:Int):∀L:List Ent,(∀e'∈L,e'.1=w→e'=e)→e∈L→Xy kx w e.2 true a b c d f g h i j k l L=some true
 | [],_,h=>by cases h
 |x::L,hL,hm=>by
  rw[Xy]
  unfold X42
  split
  ·rename_i h1
   rw[hL x List.mem_cons_self h1];simp
  ·rename_i h1
   refine Xp0 he kx a b c d f g h i j k l L (fun y hy=>hL y (List.mem_cons_of_mem _ hy)) ?_
   rcases List.mem_cons.1 hm with h2 |h2
   ·exact absurd (h2▸he) h1
   ·exact h2
theorem Xmq{w:ByteArray}(a b c d f g h i j k l:Int):∀L:List Ent,(∀e'∈L,e'.1≠w)→Xy (X1v 0 false) w 0 false a b c d f g h i j k l L=some true
 | [],_=>rfl
 |x::L,hL=>by
  rw[Xy]
  unfold X42
  rw[if_neg (hL x List.mem_cons_self)]
  exact Xmq a b c d f g h i j k l L (fun y hy=>hL y (List.mem_cons_of_mem _ hy))
theorem j3_ok{x:Hsh×Int×List (List Ent)}{l:List Ent}(hx:DirP x l){key:ByteArray}(hk:KeyP key){y:Hh.Sch}{s k:Nat}{c:Nat→Nat}(hy:Hh.SOK 257 y s k c){Ls:List (List Hh.Ans)}{e1:List Int}{e2 a:Int}
  (hD:Hh.Dec 257 37 (x.2.2.map rowI) y (homeL x.1 (sumI key)) Ls):Xz (homeL x.1 (sumI key)) l key Ls e1 e2 y.1 y.2.1 y.2.2.1 y.2.2.2 1 257 37 257 a x.2.1=some true:=by
 obtain⟨T1,T2,T3⟩:=Xmm hx
 have hb:=bkp hx
 have hlen:=hb.len
 have hrg:=Xed hx.hk (sumI key)
 have hll:=Xl9 x.1 (sumI key)
 have hh:=hx.hk
 obtain⟨o,o1,o2,o3⟩:=Hh.decode24 (w:=37) (R:=x.2.2.map rowI) Hh.fp257 hy (rows:=homeL x.1 (sumI key)) (by rw[List.length_map];intro b hb';have:=hrg b hb';omega) (by rw[hll];exact⟨by have:=hh;unfold HshOK at this;omega,by have:=hh;unfold HshOK at this;omega⟩) hD
 let cs:=(homeL x.1 (sumI key)).map fun b=>x.2.2.getD b.toNat []
 have hcs:∀c∈cs,∃b,b<x.2.2.length∧c=x.2.2.getD b []:=fun c hc=>by
  obtain⟨b,b1,rfl⟩:=List.mem_map.1 hc
  have:=hrg b b1
  exact⟨b.toNat,by omega,rfl⟩
 have hO:OutP cs o:=OutP.of cs o (by rw[o2];simp [cs]) fun t ht=>by
  have ht':t<(homeL x.1 (sumI key)).length:=by simpa [cs] using ht
  have hm:=List.getElem_mem ht'
  have hr:=hrg _ hm
  have e:cs.getD t []=x.2.2.getD (Hh.rw_ (homeL x.1 (sumI key)) t) []:=by
   simp only [cs,Hh.rw_,List.getD_eq_getElem?_getD,List.getElem?_map,List.getElem?_eq_getElem ht'];rfl
  have hlt:Hh.rw_ (homeL x.1 (sumI key)) t<x.2.2.length:=by
   simp only [Hh.rw_,List.getD_eq_getElem?_getD,List.getElem?_eq_getElem ht',Option.getD_some];omega
  have e2:Hh.gr (x.2.2.map rowI) (Hh.rw_ (homeL x.1 (sumI key)) t)=rowI (cs.getD t []):=by
   rw[e]
   simp only [Hh.gr,List.getD_eq_getElem?_getD,List.getElem?_map,List.getElem?_eq_getElem hlt];rfl
  refine⟨T2 _ ?_,?_⟩
  ·rw[e,List.getD_eq_getElem?_getD,List.getElem?_eq_getElem hlt];exact List.getElem_mem _
  ·rw[← e2];exact o3 t ht'
 have hcl:cs.length≤1000:=by
  simp only [cs,List.length_map,hll];have:=hh;unfold HshOK at this;omega
 unfold Xz
 rw[show((y.1,y.2.1,y.2.2.1,y.2.2.2):Hh.Sch)=y from rfl,show((37:Nat):Int)=37 from rfl] at*
 rw[o1,Option.bind_some,hx.one]
 by_cases hm:∃e∈l,e.1=key
 ·obtain⟨e,he,hek⟩:=hm
  obtain⟨b,b1,b2⟩:=hb.f4 e he
  have hin:(b:Int)∈homeL x.1 (sumI key):=by
   rcases hb.f2 b b1 with h | ⟨e',he',h1,h2⟩
   ·rw[b2] at h;cases h
   ·rw[b2] at h1
    have:=(List.cons.inj h1).1
    rw[← hek,this];exact h2
  have hp:=Xmp hek cs (fun c hc=>by
   obtain⟨b',g1,rfl⟩:=hcs c hc
   rcases hb.f2 b' g1 with h | ⟨e',he',h1,h2⟩
   ·exact .inl h
   ·exact .inr ⟨e',h1,fun h=>hb.f5 e' he' e he (by rw[h,hek])⟩) (by
    rw[← b2]
    exact List.mem_map.2 ⟨(b:Int),hin,by simp⟩)
  rw[Xmo hO hcl hk (r:=(e.2,true)) hp,Option.bind_some,if_neg (by simp)]
  exact Xp0 hek _ _ _ _ _ _ _ _ _ _ _ _ l (fun e' he' h=>hb.f5 e' he' e he (by rw[h,hek])) he
 ·have hp:=Xlb (w:=key) cs (fun c hc=>by
   obtain⟨b',g1,rfl⟩:=hcs c hc
   rcases hb.f2 b' g1 with h | ⟨e',he',h1,h2⟩
   ·exact .inl h
   ·exact .inr ⟨e',h1,fun h=>hm ⟨e',he',h⟩⟩)
  rw[Xmo hO hcl hk (r:=(0,false)) hp,Option.bind_some,if_neg (by simp)]
  exact Xmq _ _ _ _ _ _ _ _ _ _ _ l (fun e' he' h=>hm ⟨e',he',h⟩)
def K7:List ByteArray:=[⟨#[97,110,116]⟩,⟨#[98,101,101]⟩,⟨#[99,97,116]⟩,⟨#[100,111,103]⟩,⟨#[101,101,108]⟩,⟨#[102,111,120]⟩,⟨#[103,110,117]⟩]
theorem k7_ok{v:Int}(h0:0≤v)(h1:v<7):∃w,lidx K7 v=some w∧KeyP w:=by
 rcases(by omega:v=0∨v=1∨v=2∨v=3∨v=4∨v=5∨v=6) with rfl |rfl |rfl |rfl |rfl |rfl |rfl<;>exact⟨_,rfl,by unfold KeyP;decide⟩
theorem Xn0{t:List Int}(ht:∀x∈t,0≤x∧x≤255):X8l t=some true:=by
 unfold X8l
 obtain⟨d,d1,d2⟩:=dnew ht
 obtain⟨x,l,e,x1,hx,x3⟩:=Xus d2
 obtain⟨T1,T2,T3⟩:=Xmm hx
 obtain⟨y,e2,s,k,c,y1,hy,y3⟩:=Hh.Xog (p:=257) (by omega) x3
 obtain⟨v,e3,v1,v2,v3,v4⟩:=dpick y3 (n:=7) (by omega)
 obtain⟨key,q1,hk⟩:=k7_ok v2 v3
 have hlen:=(bkp hx).len
 have hh:=hx.hk
 unfold HshOK at hh
 have hll:=Xl9 x.1 (sumI key)
 have hrg:=Xed hx.hk (sumI key)
 have hR:Hh.Rw 257 37 (x.2.2.map rowI):=fun r hr=>by
  obtain⟨c,hc,rfl⟩:=List.mem_map.1 hr
  obtain⟨t,t1,t2,t3,t4,t5,t6⟩:=Xg7 (T2 c hc)
  exact⟨t3,fun z hz=>by have:=t4 z hz;exact⟨this.1,by omega⟩⟩
 have hn:1≤(x.2.2.map rowI).length∧(x.2.2.map rowI).length≤64:=by rw[List.length_map];omega
 have hm:1≤(homeL x.1 (sumI key)).length∧(homeL x.1 (sumI key)).length≤16:=by rw[hll];omega
 have hr:∀b∈homeL x.1 (sumI key),0≤b∧b<((x.2.2.map rowI).length:Int):=fun b hb=>by
  have:=hrg b hb;rw[List.length_map];omega
 have hc:=(hy.limits Hh.fp257 hn).2
 have l1:=Hh.limits24 Hh.fp257 hy hn hm
 have hN:(homeL x.1 (sumI key)).length*c (x.2.2.map rowI).length≤2560:=by
  have:=Nat.mul_le_mul (show(homeL x.1 (sumI key)).length≤4 by rw[hll];omega) hc
  omega
 obtain⟨T,e4,p1,p2,p3,p4⟩:=Hh.Xs7 (p:=257) (by omega) (N:=(homeL x.1 (sumI key)).length*c (x.2.2.map rowI).length) (by omega) v4
 obtain⟨qs,g,o1,o2,o3⟩:=Hh.queries24 Hh.fp257 hy (w:=37) (by omega) hR hn hr hm p3 (by omega) (by omega)
 rw[sane35,Option.bind_some,if_neg (by decide),d1,Option.bind_some,x1,Option.bind_some,T1,Option.bind_some,if_neg (by simp),y1,Option.bind_some,v1,Option.bind_some]
 rw[show([⟨#[97,110,116]⟩,⟨#[98,101,101]⟩,⟨#[99,97,116]⟩,⟨#[100,111,103]⟩,⟨#[101,101,108]⟩,⟨#[102,111,120]⟩,⟨#[103,110,117]⟩]:List ByteArray)=K7 from rfl,q1,Option.bind_some,Xs9 hx.hk hk,Option.bind_some,l1,Option.bind_some,p1,Option.bind_some,o1,Option.bind_some]
 unfold X5z
 rw[if_neg (by simp)]
 rw[show((y.1,y.2.1,y.2.2.1,y.2.2.2):Hh.Sch)=y from rfl,hy.bears,Option.bind_some]
 have fin:∀wr:Nat,wr≤1→(wr=0∨k+2≤s)→X2l (homeL x.1 (sumI key)) qs l key e4.1 e4.2 y.1 y.2.1 y.2.2.1 y.2.2.2 1 257 37 (x.2.2.map rowI) x.1.1 x.2.1 (wr:Int)=some true:=fun wr hwr hwk=>by
  unfold X2l
  obtain⟨Ls,e5,z1,z2⟩:=Hh.l4_ok (w:=37) hn (Xz (homeL x.1 (sumI key)) l key) hwr hwk rfl x.1.1 x.2.1 o2 hm.2 o3 qs 0 [] e4 rfl p4 rfl (by omega) (fun t ht=>by omega)
  exact z1.trans (j3_ok hx hk hy z2)
 by_cases hb:k+2≤s
 ·rw[decide_eq_true hb,if_pos rfl]
  exact fin 1 (by omega) (.inr hb)
 ·rw[decide_eq_false hb,if_neg (by decide)]
  exact fin 0 (by omega) (.inl rfl)
end Go.Proofs.YtmfppphlhgneeaaGreat
end
