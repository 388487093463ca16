/- What the proof needs, gathered by wip/gen/shake.py. -/
import Derived.Calls
import Derived.Deep.Quiet
import Derived.Below
import Derived.Laws.AppendOwn
import Derived.WalkKit
import Derived.Laws.OwnMore
import Derived.Deep.Slices
import Derived.ChangeOld
import Derived.ArgAppend
import Derived.RangeFuncIn
import Derived.RangeFuncRecord
import Derived.RangeFuncLeaves
import Derived.Laws.MakeOwn
import Derived.IntWalk
import Derived.Laws.IdiomStrings
import Derived.Laws.Cover3
import Derived.Laws.CopyOwn
import Derived.MapKept
import Derived.RangeFuncNested
import Derived.Test.YtnfalgmfmiolbaaGreatRows
import Derived.ProofKit
import Derived.OpenShut
import Derived.ShutString
import Derived.Test.YtnfalgmfmiolbaaGreatBoundsSettlesQ5
set_option linter.unusedVariables false
set_option linter.unusedSimpArgs false
set_option linter.unusedSectionVars false
section
namespace Go.Proofs.YtnfalgmfmiolbaaGreat.Hh
set_option linter.unusedVariables false
set_option maxRecDepth 100000
def ppl:List (Int×Int):=(X5d).getD []
theorem Xnq:X5d=some ppl:=by
 have h:(X5d).isSome=true:=by kernel_rfl
 unfold ppl
 cases h2:X5d with
 |none=>rw[h2] at h;cases h
 |some l=>rfl
theorem Xi2:X8j ppl=some 0:=by kernel_rfl
theorem Xey{j:Nat}(hj:j<10):X83 ppl ((j:Int)+1)=some (((j:Int)+1,1001+(j:Int)),true):=by
 rcases(by omega:j=0∨j=1∨j=2∨j=3∨j=4∨j=5∨j=6∨j=7∨j=8∨j=9) with rfl |rfl |rfl |rfl |rfl |rfl |rfl |rfl |rfl |rfl<;>kernel_rfl
theorem Xjn{q:List Int}(hl:q.length≤1000):∀(m f i:Nat),i+m=q.length→m<f→X39 q q f (i:Int)=some true
 |m,0,i,_,h=>by omega
 |0,f+1,i,h,_=>by
  rw[X39]
  unfold X6i
  rw[if_neg (by omega)]
 |m+1,f+1,i,h,hf=>by
  have hi:i<q.length:=by omega
  rw[X39]
  unfold X6i
  rw[if_pos (by omega),Xaw 0 hi,Option.bind_some,Option.bind_some,if_neg (by simp),w64_id (by omega) (by omega),show(i:Int)+1=((i+1:Nat):Int) by omega]
  exact Xjn hl m f (i+1) (by omega) (by omega)
theorem Xi3{q:List Int}(hl:q.length≤1000):X9o q q=some true:=by
 unfold X9o
 rw[if_neg (by simp)]
 exact Xjn hl q.length big 0 (by omega) (by simp only [big];omega)
abbrev Rdr:=Int×Sch×Hed×List Int×List (List (List Int))×List (List Ans)×List (List Int)×Bool
structure RdrOK(y:Sch)(hd:Hed)(s N:Nat)(Q:List (List (List Int)))(r:Rdr):Prop where
 id:r.1=0
 sch:r.2.1=y
 hed:r.2.2.1=hd
 qs:r.2.2.2.2.1=Q
 an:r.2.2.2.2.2.1.length=N
 ans:∀l∈r.2.2.2.2.2.1,l.length=s
 mn:r.2.2.2.2.2.2.1.length=N
 mns:∀l∈r.2.2.2.2.2.2.1,l.length=s
theorem Xgz{j:Nat}(hj:j<10){l:List Int}(hl:l.length≤3000)(mk:Int):∃b,X7i ppl ((j:Int)+1) l mk=some b:=by
 unfold X7i
 obtain⟨m,hm⟩:=Xi1 (sec:=1001+(j:Int)) (by omega) hl
 rw[Xey hj,Option.bind_some,if_neg (by simp),hm,Option.bind_some]
 exact⟨_,rfl⟩
theorem lget{α:Type}{l:List α}{i:Nat}(h:i<l.length):lidx l (i:Int)=some l[i]:=by
 unfold lidx
 rw[if_pos (by omega),Int.toNat_natCast,List.getElem?_eq_getElem h]
theorem lset{α:Type}{l:List α}{i:Nat}(h:i<l.length)(x:α):lupd l (i:Int) x=some (l.set i x):=by
 unfold lupd
 rw[if_pos ⟨by omega,by omega⟩,Int.toNat_natCast]
section
variable{y:Sch}{hd:Hed}{s N:Nat}{Q:List (List (List Int))}{r:Rdr}(h:RdrOK y hd s N Q r)(hs:s≤10)(hN:N≤16){i j:Nat}(hi:i<N)(hj:j<s)
include h hs hN hi hj
theorem Xlp{v:List Int}(hv:v.length≤1000)(mk:Int):∃r',X6j (i:Int) ((j:Int)+1) v mk r.1 r.2.1.1 r.2.1.2.1 r.2.1.2.2.1 r.2.1.2.2.2 r.2.2.1.1 r.2.2.1.2.1 r.2.2.1.2.2.1 r.2.2.1.2.2.2.1 r.2.2.1.2.2.2.2 r.2.2.2.1 r.2.2.2.2.1 r.2.2.2.2.2.2.2 r.2.2.2.2.2.1 r.2.2.2.2.2.2.1=some (r',0)∧RdrOK y hd s N Q r':=by
 obtain⟨h1,h2,h3,h4,h5,h6,h7,h8⟩:=h
 have e1:=h6 _ (List.getElem_mem (by omega:i<r.2.2.2.2.2.1.length))
 have e2:=h8 _ (List.getElem_mem (by omega:i<r.2.2.2.2.2.2.1.length))
 unfold X6j
 rw[lget (by omega),Option.bind_some,lget (by omega),Option.bind_some,X2 (by simp;omega),Option.bind_some,X2 (by simp;omega),Option.bind_some,Option.bind_some,Option.bind_some,Option.bind_some,X2 (by simp;omega),Option.bind_some,w64_id (x:=(j:Int)+1-1) (by omega) (by omega),show(j:Int)+1-1=(j:Int) by omega]
 simp only [List.nil_append]
 rw[lget (by omega),Option.bind_some,lset (by omega),Option.bind_some,Option.bind_some,lget (by omega),Option.bind_some,lset (by omega),Option.bind_some,lset (by omega),Option.bind_some,lset (by omega),Option.bind_some]
 refine⟨_,rfl,h1,h2,h3,h4,by simpa using h5,fun l hl=>?_,by simpa using h7,fun l hl=>?_⟩
 ·rcases List.mem_or_eq_of_mem_set hl with hl |rfl
  ·exact h6 l hl
  ·simpa using e1
 ·rcases List.mem_or_eq_of_mem_set hl with hl |rfl
  ·exact h8 l hl
  ·simpa using e2
theorem Xlq{q v:List Int}(hq:q.length≤1000)(hv:v.length≤1000)(mk n1 n2 n5:Int)(z0 z1 z2 z3 z4 z5 z6 z7 z8 z9:Int)(bb:Bool):∃r' e,X11 ppl q v r.2.2.2.1 r.2.2.2.2.1 r.2.2.2.2.2.1 r.2.2.2.2.2.2.1 z0 z1 z2 z3 z4 z5 z6 z7 z8 z9 bb n1 n2 (i:Int) ((j:Int)+1) n5 mk r.1 r.2.1.1 r.2.1.2.1 r.2.1.2.2.1 r.2.1.2.2.2 r.2.2.1.1 r.2.2.1.2.1 r.2.2.1.2.2.1 r.2.2.1.2.2.2.1 r.2.2.1.2.2.2.2 r.2.2.2.2.2.2.2=some (r',e)∧RdrOK y hd s N Q r':=by
 have h':=h
 obtain⟨h1,h2,h3,h4,h5,h6,h7,h8⟩:=h'
 have e1:=h6 _ (List.getElem_mem (by omega:i<r.2.2.2.2.2.1.length))
 unfold X11
 obtain⟨l,l1,l2⟩:=Xdt (n:=(n1,n2,(i:Int),(j:Int)+1,n5,q,v,mk)) hq hv
 obtain⟨b,hb⟩:=Xgz (j:=j) (by omega) l2 mk
 rw[l1,Option.bind_some,hb,Option.bind_some]
 cases b with
 |false=>rw[if_pos (by decide)];exact⟨r,_,rfl,h⟩
 |true=>
  rw[if_neg (by decide),lget (by omega),Option.bind_some,w64_id (x:=(j:Int)+1-1) (by omega) (by omega),show(j:Int)+1-1=(j:Int) by omega,lget (by omega),Option.bind_some]
  split
  ·exact⟨r,_,rfl,h⟩
  ·rw[X2 (by simp;omega),Option.bind_some,X2 (by simp;omega),Option.bind_some,List.nil_append,List.nil_append]
   obtain⟨r',g1,g2⟩:=Xlp h hs hN hi hj hv mk
   exact⟨r',0,g1,g2⟩
theorem Xi4{q v:List Int}(hq:q.length≤1000)(hv:v.length≤1000)(mk n1 n2 n5:Int):∀(m f t:Nat),t+m=v.length→m<f→∃r' e,X20 (X11 ppl q v r.2.2.2.1 r.2.2.2.2.1 r.2.2.2.2.2.1 r.2.2.2.2.2.2.1) n1 n2 (i:Int) ((j:Int)+1) n5 v mk r.1 r.2.1.1 r.2.1.2.1 r.2.1.2.2.1 r.2.1.2.2.2 r.2.2.1.1 r.2.2.1.2.1 r.2.2.1.2.2.1 r.2.2.1.2.2.2.1 r.2.2.1.2.2.2.2 r.2.2.2.1 r.2.2.2.2.1 r.2.2.2.2.2.1 r.2.2.2.2.2.2.1 r.2.2.2.2.2.2.2 f (t:Int)=some (r',e)∧RdrOK y hd s N Q r'
 |m,0,t,_,hf=>by omega
 |0,f+1,t,ht,_=>by
  rw[X20]
  unfold X6k
  rw[if_neg (by omega)]
  exact Xlq h hs hN hi hj hq hv mk n1 n2 n5 _ _ _ _ _ _ _ _ _ _ _
 |m+1,f+1,t,ht,hf=>by
  have hlt:t<v.length:=by omega
  rw[X20]
  unfold X6k
  rw[if_pos (by omega),lget hlt,Option.bind_some]
  have key:∀b:Bool,∃r' e,(if b=true then some (r,2) else X20 (X11 ppl q v r.2.2.2.1 r.2.2.2.2.1 r.2.2.2.2.2.1 r.2.2.2.2.2.2.1) n1 n2 (i:Int) ((j:Int)+1) n5 v mk r.1 r.2.1.1 r.2.1.2.1 r.2.1.2.2.1 r.2.1.2.2.2 r.2.2.1.1 r.2.2.1.2.1 r.2.2.1.2.2.1 r.2.2.1.2.2.2.1 r.2.2.1.2.2.2.2 r.2.2.2.1 r.2.2.2.2.1 r.2.2.2.2.2.1 r.2.2.2.2.2.2.1 r.2.2.2.2.2.2.2 f (w64 ((t:Int)+1)))=some (r',e)∧RdrOK y hd s N Q r':=fun b=>by
   cases b with
   |true=>exact⟨r,2,rfl,h⟩
   |false=>
    rw[if_neg (by decide),w64_id (by omega) (by omega),show(t:Int)+1=((t+1:Nat):Int) by omega]
    exact Xi4 hq hv mk n1 n2 n5 m f (t+1) (by omega) (by omega)
  by_cases h0:v[t]<0
  ·rw[if_pos h0,Option.bind_some];exact key true
  ·rw[if_neg h0,Option.bind_some,Option.bind_some];exact key _
theorem Xiy{q v:List Int}(hq:q.length≤1000)(hv:v.length≤1000)(hQ:∃l,Q[i]?=some l∧l[j]?=some q)(hys:y.2.1=(s:Int))(hQN:Q.length=N)(mk:Int):∃r' e,X9p r ppl (2,0,(i:Int),(j:Int)+1,hd.1,q,v,mk)=some (r',e)∧RdrOK y hd s N Q r':=by
 have h':=h
 obtain⟨h1,h2,h3,h4,h5,h6,h7,h8⟩:=h'
 obtain⟨l,g1,g2⟩:=hQ
 unfold X9p
 split
 ·exact⟨r,_,rfl,h⟩
 ·dsimp only
  have e1:lidx r.2.2.2.2.1 (i:Int)=some l:=by rw[h4];unfold lidx;rw[if_pos (by omega),Int.toNat_natCast,g1]
  have e2:lidx l (w64 ((j:Int)+1-1))=some q:=by
   rw[w64_id (by omega) (by omega),show(j:Int)+1-1=(j:Int) by omega];unfold lidx;rw[if_pos (by omega),Int.toNat_natCast,g2]
  rw[if_neg (by rw[h1,h2,h3,h4,hys];omega),e1,Option.bind_some,e2,Option.bind_some,Xi3 hq,Option.bind_some,Option.bind_some]
  split
  ·exact⟨r,_,rfl,h⟩
  ·have:=Xi4 h hs hN hi hj hq hv mk 2 0 hd.1 v.length big 0 (by omega) (by simp only [big];omega)
   exact this
end
end Go.Proofs.YtnfalgmfmiolbaaGreat.Hh
end

section
namespace Go.Proofs.YtnfalgmfmiolbaaGreat.Hh
set_option linter.unusedVariables false
set_option maxRecDepth 100000
abbrev Tab:=Int×Int×Int×List (List Int)
abbrev Dsk:=Int×Int×List (Int×Int×Int×Int×Int)
abbrev Pns:=List (Int×Int)×List Int
abbrev Res:=Int×Int×List (Int×List Int×List Int)×List Note
abbrev Wld:=Sch×List (Int×Int)×List Tab×List Srv×List Note×List Rdr×Dsk×Pns×List Int×List Res
def svs(s:Nat)(y:Sch)(hd:Hed)(H:Nat→List (List Int))(js:Nat→List Job):List Srv:=(List.range s).map fun j=>srv y hd (H j) j (js j)
theorem X5g{s:Nat}{y:Sch}{hd:Hed}{H:Nat→List (List Int)}{js:Nat→List Job}:(svs s y hd H js).length=s:=by simp [svs]
theorem Xar{s:Nat}{y:Sch}{hd:Hed}{H:Nat→List (List Int)}{js:Nat→List Job}{j:Nat}(hj:j<s):lidx (svs s y hd H js) (j:Int)=some (srv y hd (H j) j (js j)):=by
 rw[lget (by rw[X5g];exact hj)]
 simp [svs]
def jset(js:Nat→List Job)(j:Nat)(l:List Job):Nat→List Job:=fun k=>if k=j then l else js k
theorem Xg6{s:Nat}{y:Sch}{hd:Hed}{H:Nat→List (List Int)}{js:Nat→List Job}{j:Nat}(hj:j<s)(l:List Job):lupd (svs s y hd H js) (j:Int) (srv y hd (H j) j l)=some (svs s y hd H (jset js j l)):=by
 rw[lset (by rw[X5g];exact hj)]
 congr 1
 refine List.ext_getElem (by simp [svs]) fun k h1 h2=>?_
 simp only [svs,List.getElem_set,List.getElem_map,List.getElem_range,jset]
 by_cases h:j=k
 ·subst h;simp
 ·rw[if_neg h,if_neg (fun e=>h e.symm)]
structure Fix where
 y:Sch
 tabs:List Tab
 dsk:Dsk
 pns:Pns
 li:List Int
def wld(X:Fix)(S:List Srv)(C:List Note)(r:Rdr):Wld:=(X.y,ppl,X.tabs,S,C,[r],X.dsk,X.pns,X.li,[])
theorem Xg7{X:Fix}{S:List Srv}{C:List Note}{r:Rdr}(hS:S.length≤1000):X84 (wld X S C r)=some (wld X S C r):=by
 unfold X84 wld
 dsimp only
 rw[X2 (by simp;omega),Option.bind_some,X2 (by simp),Option.bind_some,X2 (by simp),Option.bind_some,List.nil_append,List.nil_append,List.nil_append]
section
variable{X:Fix}{hd:Hed}{s N:Nat}{H:Nat→List (List Int)}(hs:1≤s∧s≤10){C:List Note}(hC:C.length≤200){r:Rdr}{j:Nat}(hj:j<s)
include hs hC hj
theorem Xiz{p:Int}(hp:hd.2.1=p){q:List Int}(hq:El p q)(hl:q.length=(H j).length)(hl2:(H j).length≤1000){js:Nat→List Job}(hjs:js j=[])(i mk:Int)(vs:List Int)(z:Int×Int×Int×List (Int×List Int)):
  X21 (wld X (svs s X.y hd H js) ((1,0,i,(j:Int)+1,hd.1,q,vs,mk)::C) r) (2,0,[],z)=some (wld X (svs s X.y hd H (jset js j [(0,i,hd.1,q,[])])) C r,0):=by
 unfold X21
 rw[Xg7 (by rw[X5g];omega),Option.bind_some]
 unfold wld
 dsimp only
 rw[if_neg (by decide),if_pos rfl]
 unfold X5r
 rw[if_neg (by simp),show lidx ((1,0,i,(j:Int)+1,hd.1,q,vs,mk)::C:List Note) (0:Int)=some (1,0,i,(j:Int)+1,hd.1,q,vs,mk) from rfl,Option.bind_some,Option.bind_some,if_neg (by simp)]
 unfold X6l X9n X5r
 dsimp only
 rw[if_neg (by simp),show lidx ((1,0,i,(j:Int)+1,hd.1,q,vs,mk)::C:List Note) (0:Int)=some (1,0,i,(j:Int)+1,hd.1,q,vs,mk) from rfl,Option.bind_some,Option.bind_some,if_neg (by simp),X3t (by omega) (by omega) (by simp;omega),Option.bind_some,w64_id (x:=0+1) (by omega) (by omega),X3t (by omega) (by simp;omega) (by simp),Option.bind_some,X2 (by simp),Option.bind_some,X2 (by simp;omega),Option.bind_some,Option.bind_some,if_neg (by simp),if_pos rfl]
 have e:([]++List.take (0-0:Int).toNat (List.drop (0:Int).toNat ((1,0,i,(j:Int)+1,hd.1,q,vs,mk)::C:List Note)))++List.take (((1,0,i,(j:Int)+1,hd.1,q,vs,mk)::C:List Note).length-(0+1):Int).toNat (List.drop (0+1:Int).toNat ((1,0,i,(j:Int)+1,hd.1,q,vs,mk)::C:List Note))=C:=by
  simp
 unfold X3m X9q X5s
 dsimp only
 rw[if_pos rfl,if_neg (by rw[X5g];omega),Option.bind_some,w64_id (x:=(j:Int)+1-1) (by omega) (by omega),show(j:Int)+1-1=(j:Int) by omega,if_neg (by omega),Xar hj,Option.bind_some,hjs]
 have:=Xnp (y:=X.y) hp (H:=H j) (j:=j) hq hl hl2 0 i mk vs
 rw[this,Option.bind_some]
 unfold X7y
 rw[Xar hj,Option.bind_some]
 have e2:=Xg6 (y:=X.y) (hd:=hd) (H:=H) (js:=js) hj [(0,i,hd.1,q,[])]
 unfold srv at e2 ⊢
 dsimp only at e2 ⊢
 rw[e2,Option.bind_some,Option.bind_some,Option.bind_some,e]
theorem Xlr{p:Int}(hf:Fp p)(hp:hd.2.1=p){w:Nat}(hw:1≤w∧w≤64)(hwd:hd.2.2.2.1=(w:Int))(hH:Rw p w (H j)){q:List Int}(hq:El p q)(hl:q.length=(H j).length)(hl2:(H j).length≤1000)(hli:X.li.length=s){js:Nat→List Job}(i:Int){done:List Int}(hdn:done.length<w)(hjs:js j=[(0,i,hd.1,q,done)])(z:Int×Int×Int×List (Int×List Int)):∃x:Int,
  (done.length+1<w→X21 (wld X (svs s X.y hd H js) C r) (5,(j:Int)+1,[],z)=some (wld X (svs s X.y hd H (jset js j [(0,i,hd.1,q,done++[x])])) C r,0))∧
  (done.length+1=w→∃mk,X21 (wld X (svs s X.y hd H js) C r) (5,(j:Int)+1,[],z)=some (wld X (svs s X.y hd H (jset js j [])) (C++[(2,0,i,(j:Int)+1,hd.1,q,done++[x],mk)]) r,0)):=by
 have hlj:lidx X.li (j:Int)=some (X.li[j]'(by omega)):=lget (by omega)
 generalize X.li[j]'(by omega)=lie at hlj
 have hper:1≤((j:Int)+1,1001+(j:Int)).2∧((j:Int)+1,1001+(j:Int)).2<2147483647:=by dsimp only;omega
 obtain⟨x,g1,g2⟩:=Xlo hf (y:=X.y) hp hw hwd hH (j:=j) hq hl hl2 (per:=((j:Int)+1,1001+(j:Int))) lie 0 i hdn hper
 have key:X21 (wld X (svs s X.y hd H js) C r) (5,(j:Int)+1,[],z)=(X88 (wld X (svs s X.y hd H js) C r) ((j:Int)+1)).bind fun u=>if u.2≠0 then none else some (u.1,0):=by
  unfold X21
  rw[Xg7 (by rw[X5g];omega),Option.bind_some,if_neg (by simp),if_neg (by simp),if_neg (by simp),if_neg (by simp),if_pos rfl]
  rfl
 have key2:X88 (wld X (svs s X.y hd H js) C r) ((j:Int)+1)=(X5t (srv X.y hd (H j) j [(0,i,hd.1,q,done)]) ((j:Int)+1,1001+(j:Int)) lie).bind fun u=>X4r (j:Int) X.y.1 X.y.2.1 X.y.2.2.1 X.y.2.2.2 ppl X.tabs C X.dsk.1 X.dsk.2.1 X.dsk.2.2 X.pns.1 X.pns.2 X.li [] (svs s X.y hd H js) [r] u.1.1 u.1.2.1.1 u.1.2.1.2.1 u.1.2.1.2.2.1 u.1.2.1.2.2.2 u.1.2.2.1 u.1.2.2.2.1 u.1.2.2.2.2 u.2.1.1 u.2.1.2.1 u.2.1.2.2.1 u.2.1.2.2.2.1 u.2.1.2.2.2.2.1 u.2.1.2.2.2.2.2.1 u.2.1.2.2.2.2.2.2.1 u.2.1.2.2.2.2.2.2.2 u.2.2.1 u.2.2.2:=by
  unfold X88 X5s wld
  dsimp only
  rw[if_neg (by rw[X5g];omega),Option.bind_some,w64_id (x:=(j:Int)+1-1) (by omega) (by omega),show(j:Int)+1-1=(j:Int) by omega,if_neg (by omega),Xey (by omega),Option.bind_some,Xar hj,Option.bind_some,hjs,hlj,Option.bind_some]
 refine⟨x,fun h=>?_,fun h=>?_⟩
 ·rw[key,key2,g1 h,Option.bind_some]
  unfold X4r
  rw[if_neg (by simp),if_neg (by simp)]
  unfold X4q
  have e2:=Xg6 (y:=X.y) (hd:=hd) (H:=H) (js:=js) hj [(0,i,hd.1,q,done++[x])]
  unfold srv at e2 ⊢
  dsimp only at e2 ⊢
  rw[Xar hj,Option.bind_some,e2,Option.bind_some,Option.bind_some,if_neg (by simp)]
  rfl
 ·obtain⟨mk,g2⟩:=g2 h
  refine⟨mk,?_⟩
  rw[key,key2,g2,Option.bind_some]
  unfold X4r
  rw[if_neg (by simp),if_pos (by simp)]
  unfold X86
  rw[if_neg (by rw[w64_id (by simp;omega) (by simp;omega)];simp;omega),X2 (by simp;omega),Option.bind_some,X2 (by simp;omega),Option.bind_some,Option.bind_some,if_neg (by simp)]
  unfold X4q
  have e2:=Xg6 (y:=X.y) (hd:=hd) (H:=H) (js:=js) hj []
  unfold srv at e2 ⊢
  dsimp only at e2 ⊢
  rw[Xar hj,Option.bind_some,e2,Option.bind_some,Option.bind_some,if_neg (by simp)]
  rfl
theorem Xi5{Q:List (List (List Int))}(h:RdrOK X.y hd s N Q r)(hN:N≤16){i:Nat}(hi:i<N){q v:List Int}(hq:q.length≤1000)(hv:v.length≤1000)(hQ:∃l,Q[i]?=some l∧l[j]?=some q)(hys:X.y.2.1=(s:Int))(hQN:Q.length=N)(mk:Int){js:Nat→List Job}(z:Int×Int×Int×List (Int×List Int)):
  ∃r' e,X21 (wld X (svs s X.y hd H js) ((2,0,(i:Int),(j:Int)+1,hd.1,q,v,mk)::C) r) (2,0,[],z)=some (wld X (svs s X.y hd H js) C r',e)∧RdrOK X.y hd s N Q r':=by
 obtain⟨r',e,g1,g2⟩:=Xiy h hs.2 hN hi hj hq hv hQ hys hQN mk
 refine⟨r',e,?_,g2⟩
 unfold X21
 rw[Xg7 (by rw[X5g];omega),Option.bind_some]
 unfold wld
 dsimp only
 rw[if_neg (by decide),if_pos rfl]
 unfold X5r
 rw[if_neg (by simp),show lidx ((2,0,(i:Int),(j:Int)+1,hd.1,q,v,mk)::C:List Note) (0:Int)=some (2,0,(i:Int),(j:Int)+1,hd.1,q,v,mk) from rfl,Option.bind_some,Option.bind_some,if_neg (by simp)]
 unfold X6l X9n X5r
 dsimp only
 rw[if_neg (by simp),show lidx ((2,0,(i:Int),(j:Int)+1,hd.1,q,v,mk)::C:List Note) (0:Int)=some (2,0,(i:Int),(j:Int)+1,hd.1,q,v,mk) from rfl,Option.bind_some,Option.bind_some,if_neg (by simp),X3t (by omega) (by omega) (by simp;omega),Option.bind_some,w64_id (x:=0+1) (by omega) (by omega),X3t (by omega) (by simp;omega) (by simp),Option.bind_some,X2 (by simp),Option.bind_some,X2 (by simp;omega),Option.bind_some,Option.bind_some,if_neg (by simp),if_pos rfl]
 have e:([]++List.take (0-0:Int).toNat (List.drop (0:Int).toNat ((2,0,(i:Int),(j:Int)+1,hd.1,q,v,mk)::C:List Note)))++List.take (((2,0,(i:Int),(j:Int)+1,hd.1,q,v,mk)::C:List Note).length-(0+1):Int).toNat (List.drop (0+1:Int).toNat ((2,0,(i:Int),(j:Int)+1,hd.1,q,v,mk)::C:List Note))=C:=by
  simp
 unfold X3m X9q
 dsimp only
 rw[if_neg (by decide),if_neg (by simp),show lidx [r] (0:Int)=some r from rfl,Option.bind_some,g1,Option.bind_some]
 unfold X7z
 rw[show lidx [r] (0:Int)=some r from rfl,Option.bind_some,show lupd [r] (0:Int) (r'.1,(r'.2.1.1,r'.2.1.2.1,r'.2.1.2.2.1,r'.2.1.2.2.2),(r'.2.2.1.1,r'.2.2.1.2.1,r'.2.2.1.2.2.1,r'.2.2.1.2.2.2.1,r'.2.2.1.2.2.2.2),r'.2.2.2.1,r'.2.2.2.2.1,r'.2.2.2.2.2.1,r'.2.2.2.2.2.2.1,r'.2.2.2.2.2.2.2)=some [r'] from rfl,Option.bind_some,Option.bind_some,Option.bind_some,e]
end
end Go.Proofs.YtnfalgmfmiolbaaGreat.Hh
end

section
namespace Go.Proofs.YtnfalgmfmiolbaaGreat.Hh
set_option linter.unusedVariables false
set_option maxRecDepth 100000
abbrev SR:=Wld×Int
section
variable{y:Sch}{hd:Hed}{s:Nat}{H:Nat→List (List Int)}{js:Nat→List Job}(hs:s≤10)
 (kx:Int→Int→Int→Int→Int→Int→Int→Int→Int→Int→Int→Int→Int→Option SR) (a b c d e f g h k l m n:Int)
include hs
theorem Xjo{v:Int}(hv:v≠0):∀(q fu i:Nat),i+q=s→q<fu→Xf kx a b c d e f g h k l (svs s y hd H js) m n fu v (i:Int)=kx v a b c d e f g h k l m n
 |q,0,i,_,hf=>by omega
 |0,fu+1,i,hi,_=>by
  rw[Xf]
  unfold Xr
  rw[X5g,if_neg (by omega)]
 |q+1,fu+1,i,hi,hf=>by
  rw[Xf]
  unfold Xr
  rw[X5g,if_pos (by omega),if_neg hv,Option.bind_some,if_neg (by decide),Option.bind_some,if_neg (by decide),w64_id (by omega) (by omega),show(i:Int)+1=((i+1:Nat):Int) by omega]
  exact Xjo hv q fu (i+1) (by omega) (by omega)
theorem Xi6:∀(q fu i:Nat),i+q=s→q<fu→(∀t,i≤t→t<s→js t=[])→Xf kx a b c d e f g h k l (svs s y hd H js) m n fu 0 (i:Int)=kx 0 a b c d e f g h k l m n
 |q,0,i,_,hf,_=>by omega
 |0,fu+1,i,hi,_,_=>by
  rw[Xf]
  unfold Xr
  rw[X5g,if_neg (by omega)]
 |q+1,fu+1,i,hi,hf,hj=>by
  rw[Xf]
  unfold Xr
  rw[X5g,if_pos (by omega),if_pos rfl,Xar (by omega),hj i (by omega) (by omega),Option.bind_some]
  unfold srv
  dsimp only
  rw[Option.bind_some,if_pos rfl,Option.bind_some,Option.bind_some,if_neg (by simp),w64_id (by omega) (by omega),show(i:Int)+1=((i+1:Nat):Int) by omega]
  exact Xi6 q fu (i+1) (by omega) (by omega) (fun t ht=>hj t (by omega))
theorem Xjp{j:Nat}(hj:j<s)(hjj:js j≠[]):∀(q fu i:Nat),i+q=j→q+s<fu→(∀t,i≤t→t<j→js t=[])→Xf kx a b c d e f g h k l (svs s y hd H js) m n fu 0 (i:Int)=kx ((j:Int)+1) a b c d e f g h k l m n
 |q,0,i,_,hf,_=>by omega
 |0,fu+1,i,hi,hf,_=>by
  have:i=j:=by omega
  subst this
  have hlen:0<((js i).length:Int):=by
   cases hq:js i with
   |nil=>exact absurd hq hjj
   |cons x xs=>simp
  rw[Xf]
  unfold Xr
  rw[X5g,if_pos (by omega),if_pos rfl,Xar (by omega),Option.bind_some]
  unfold srv
  dsimp only
  rw[Option.bind_some,if_pos rfl,Option.bind_some,Option.bind_some,if_pos (by rw[decide_eq_true hlen]),w64_id (by omega) (by omega),show(i:Int)+1=((i+1:Nat):Int) by omega]
  exact Xjo hs kx a b c d e f g h k l m n (by omega) (s-(i+1)) fu (i+1) (by omega) (by omega)
 |q+1,fu+1,i,hi,hf,hjs=>by
  rw[Xf]
  unfold Xr
  rw[X5g,if_pos (by omega),if_pos rfl,Xar (by omega),hjs i (by omega) (by omega),Option.bind_some]
  unfold srv
  dsimp only
  rw[Option.bind_some,if_pos rfl,Option.bind_some,Option.bind_some,if_neg (by simp),w64_id (by omega) (by omega),show(i:Int)+1=((i+1:Nat):Int) by omega]
  exact Xjp hj hjj q fu (i+1) (by omega) (by omega) (fun t ht=>hjs t (by omega))
end
def SL(f:Nat)(n:Int)(w:Wld):Option SR:=X8 5000 f n 0 0 0 0 0 0 w.1.1 w.1.2.1 w.1.2.2.1 w.1.2.2.2 w.2.1 w.2.2.1 w.2.2.2.1 w.2.2.2.2.1 w.2.2.2.2.2.1 w.2.2.2.2.2.2.1.1 w.2.2.2.2.2.2.1.2.1 w.2.2.2.2.2.2.1.2.2 w.2.2.2.2.2.2.2.1.1 w.2.2.2.2.2.2.2.1.2 w.2.2.2.2.2.2.2.2.1 w.2.2.2.2.2.2.2.2.2
def noj:Nat→List Job:=fun _=>[]
section
variable{X:Fix}{hd:Hed}{s:Nat}{H:Nat→List (List Int)}(hs:1≤s∧s≤10){C:List Note}{r:Rdr}(f n:Nat)(hn:n<5000)
include hs hn
theorem Xi7{js:Nat→List Job}{j:Nat}(hj:j<s)(hjj:js j≠[])(h0:∀t,t<j→js t=[]){w':Wld}{e:Int}(h:X21 (wld X (svs s X.y hd H js) C r) (5,(j:Int)+1,[],(0,0,0,[]))=some (w',e)):
  SL (f+1) (n:Int) (wld X (svs s X.y hd H js) C r)=SL f ((n+1:Nat):Int) w':=by
 unfold SL wld at*
 rw[X8]
 unfold X2t
 dsimp only at*
 rw[if_pos (by omega)]
 have:=Xjp (y:=X.y) (hd:=hd) (H:=H) hs.2 (Xi (X8 5000 f) (n:Int) ppl X.tabs (svs s X.y hd H js) C [r] X.dsk.2.2 X.pns.1 X.pns.2 X.li []) 0 0 0 0 0 0 X.y.1 X.y.2.1 X.y.2.2.1 X.y.2.2.2 X.dsk.1 X.dsk.2.1 hj hjj j big 0 (by omega) (by simp only [big];omega) (fun t _ ht=>h0 t ht)
 rw[show((0:Nat):Int)=0 from rfl] at this
 rw[this]
 unfold Xi
 rw[if_pos (by omega)]
 rw[show((X.y.1,X.y.2.1,X.y.2.2.1,X.y.2.2.2):Sch)=X.y from rfl,show((X.dsk.1,X.dsk.2.1,X.dsk.2.2):Dsk)=X.dsk from rfl,show((X.pns.1,X.pns.2):Pns)=X.pns from rfl,h,Option.bind_some,w64_id (by omega) (by omega),show(n:Int)+1=((n+1:Nat):Int) by omega]
theorem Xdu{x:Note}{w':Wld}{e:Int}(h:X21 (wld X (svs s X.y hd H noj) (x::C) r) (2,0,[],(0,0,0,[]))=some (w',e)):
  SL (f+1) (n:Int) (wld X (svs s X.y hd H noj) (x::C) r)=SL f ((n+1:Nat):Int) w':=by
 unfold SL wld at*
 rw[X8]
 unfold X2t
 dsimp only at*
 rw[if_pos (by omega)]
 have:=Xi6 (y:=X.y) (hd:=hd) (H:=H) (js:=noj) hs.2 (Xi (X8 5000 f) (n:Int) ppl X.tabs (svs s X.y hd H noj) (x::C) [r] X.dsk.2.2 X.pns.1 X.pns.2 X.li []) 0 0 0 0 0 0 X.y.1 X.y.2.1 X.y.2.2.1 X.y.2.2.2 X.dsk.1 X.dsk.2.1 s big 0 (by omega) (by simp only [big];omega) (fun _ _ _=>rfl)
 rw[show((0:Nat):Int)=0 from rfl] at this
 rw[this]
 unfold Xi
 rw[if_neg (by omega),if_pos (by simp)]
 rw[show((X.y.1,X.y.2.1,X.y.2.2.1,X.y.2.2.2):Sch)=X.y from rfl,show((X.dsk.1,X.dsk.2.1,X.dsk.2.2):Dsk)=X.dsk from rfl,show((X.pns.1,X.pns.2):Pns)=X.pns from rfl,h,Option.bind_some,w64_id (by omega) (by omega),show(n:Int)+1=((n+1:Nat):Int) by omega]
theorem Xls:SL (f+1) (n:Int) (wld X (svs s X.y hd H noj) [] r)=some (wld X (svs s X.y hd H noj) [] r,(n:Int)):=by
 unfold SL wld at*
 rw[X8]
 unfold X2t
 dsimp only at*
 rw[if_pos (by omega)]
 have:=Xi6 (y:=X.y) (hd:=hd) (H:=H) (js:=noj) hs.2 (Xi (X8 5000 f) (n:Int) ppl X.tabs (svs s X.y hd H noj) [] [r] X.dsk.2.2 X.pns.1 X.pns.2 X.li []) 0 0 0 0 0 0 X.y.1 X.y.2.1 X.y.2.2.1 X.y.2.2.2 X.dsk.1 X.dsk.2.1 s big 0 (by omega) (by simp only [big];omega) (fun _ _ _=>rfl)
 rw[show((0:Nat):Int)=0 from rfl] at this
 rw[this]
 unfold Xi
 rw[if_neg (by omega),if_neg (by simp)]
end
end Go.Proofs.YtnfalgmfmiolbaaGreat.Hh
end

section
namespace Go.Proofs.YtnfalgmfmiolbaaGreat.Hh
set_option linter.unusedVariables false
set_option maxRecDepth 100000
def qnote(num:Int)(i j:Nat)(q:List Int):Note:=(1,0,(i:Int),(j:Int)+1,num,q,[],0)
theorem Xfq(js:Nat→List Job)(j:Nat)(a b:List Job):jset (jset js j a) j b=jset js j b:=by
 funext k
 simp only [jset]
 split<;>rfl
theorem Xj0(j:Nat):jset noj j []=noj:=by
 funext k
 simp only [jset,noj]
 split<;>rfl
theorem Xi8(js:Nat→List Job)(j:Nat)(l:List Job):jset js j l j=l:=by simp [jset]
section
variable{X:Fix}{hd:Hed}{s N:Nat}{H:Nat→List (List Int)}(hs:1≤s∧s≤10)(hli:X.li.length=s){p:Int}(hf:Fp p)(hp:hd.2.1=p){w:Nat}(hw:1≤w∧w≤64)(hwd:hd.2.2.2.1=(w:Int)){u:Nat}(hu:u≤1000)(hH:∀j,j<s→Rw p w (H j)∧(H j).length=u)
include hs hli hf hp hw hwd hu hH
theorem Xgq{j:Nat}(hj:j<s){q:List Int}(hq:El p q)(hl:q.length=u)(i:Int){r:Rdr}:∀(m:Nat)(done:List Int)(C:List Note)(f n:Nat),done.length+m=w→1≤m→C.length≤200→n+m≤5000→
  ∃v mk,v.length=w∧SL (f+m) (n:Int) (wld X (svs s X.y hd H (jset noj j [(0,i,hd.1,q,done)])) C r)=SL f ((n+m:Nat):Int) (wld X (svs s X.y hd H noj) (C++[(2,0,i,(j:Int)+1,hd.1,q,v,mk)]) r)
 |0,done,C,f,n,_,h,_,_=>by omega
 |m+1,done,C,f,n,hd1,_,hC,hn=>by
  obtain⟨h1,h2⟩:=hH j hj
  obtain⟨x,g1,g2⟩:=Xlr hs hC hj (r:=r) hf hp hw hwd h1 hq (by omega) (by omega) hli (js:=jset noj j [(0,i,hd.1,q,done)]) i (done:=done) (by omega) (Xi8 _ _ _) (0,0,0,[])
  have hne:jset noj j [(0,i,hd.1,q,done)] j≠[]:=by rw[Xi8];simp
  have h0:∀t,t<j→jset noj j [(0,i,hd.1,q,done)] t=[]:=fun t ht=>by simp only [jset,noj];rw[if_neg (by omega)]
  cases m with
  |zero=>
   obtain⟨mk,g2⟩:=g2 (by omega)
   refine⟨done++[x],mk,by simp;omega,?_⟩
   have:=Xi7 hs f n (by omega) hj hne h0 g2
   rw[Xfq,Xj0] at this
   exact this
  |succ m=>
   have g1:=g1 (by omega)
   have:=Xi7 hs (f+(m+1)) n (by omega) hj hne h0 g1
   rw[Xfq] at this
   obtain⟨v,mk,k1,k2⟩:=Xgq hj hq hl i (m+1) (done++[x]) C f (n+1) (by simp;omega) (by omega) hC (by omega)
   refine⟨v,mk,k1,?_⟩
   rw[show f+(m+1+1)=f+(m+1)+1 by omega,this,k2,show n+1+(m+1)=n+(m+1+1) by omega]
theorem Xj1{i j:Nat}(hj:j<s){q:List Int}(hq:El p q)(hl:q.length=u){r:Rdr}{C:List Note}(hC:C.length≤200)(f n:Nat)(hn:n+(w+1)≤5000):
  ∃v mk,v.length=w∧SL (f+(w+1)) (n:Int) (wld X (svs s X.y hd H noj) (qnote hd.1 i j q::C) r)=SL f ((n+(w+1):Nat):Int) (wld X (svs s X.y hd H noj) (C++[(2,0,(i:Int),(j:Int)+1,hd.1,q,v,mk)]) r):=by
 obtain⟨h1,h2⟩:=hH j hj
 have g:=Xiz hs hC hj (X:=X) (H:=H) (r:=r) hp hq (by omega) (by omega) (js:=noj) rfl (i:Int) 0 [] (0,0,0,[])
 have:=Xdu hs (f+w) n (by omega) g
 obtain⟨v,mk,k1,k2⟩:=Xgq hs hli hf hp hw hwd hu hH hj hq hl (i:Int) (r:=r) w [] C f (n+1) (by simp) hw.1 hC (by omega)
 refine⟨v,mk,k1,?_⟩
 unfold qnote
 rw[show f+(w+1)=f+w+1 by omega,this,k2,show n+1+w=n+(w+1) by omega]
def AnsN(num:Int)(s N w:Nat)(Q:List (List (List Int)))(x:Note):Prop:=∃(i j:Nat)(q v:List Int)(mk:Int),i<N∧j<s∧q.length≤1000∧v.length=w∧(∃l,Q[i]?=some l∧l[j]?=some q)∧x=(2,0,(i:Int),(j:Int)+1,num,q,v,mk)
def QryN(p:Int)(u:Nat)(num:Int)(s N:Nat)(Q:List (List (List Int)))(x:Note):Prop:=∃(i j:Nat)(q:List Int),i<N∧j<s∧El p q∧q.length=u∧(∃l,Q[i]?=some l∧l[j]?=some q)∧x=qnote num i j q
theorem Xdv{Q:List (List (List Int))}{r:Rdr}:∀(A B:List Note)(f n:Nat),(∀x∈A,QryN p u hd.1 s N Q x)→(∀x∈B,AnsN hd.1 s N w Q x)→A.length+B.length≤200→n+A.length*(w+1)≤5000→
  ∃B',(∀x∈B',AnsN hd.1 s N w Q x)∧B'.length=A.length+B.length∧SL (f+A.length*(w+1)) (n:Int) (wld X (svs s X.y hd H noj) (A++B) r)=SL f ((n+A.length*(w+1):Nat):Int) (wld X (svs s X.y hd H noj) B' r)
 | [],B,f,n,_,hB,_,_=>⟨B,hB,by simp,by simp⟩
 |x::A,B,f,n,hA,hB,hl,hn=>by
  obtain⟨i,j,q,hi,hj,hq,hql,hQ,rfl⟩:=hA _ List.mem_cons_self
  simp only [List.length_cons] at hl hn
  have e1:(A.length+1)*(w+1)=A.length*(w+1)+(w+1):=by rw[Nat.add_mul,Nat.one_mul]
  obtain⟨v,mk,k1,k2⟩:=Xj1 hs hli hf hp hw hwd hu hH (i:=i) hj hq hql (r:=r) (C:=A++B) (by simp;omega) (f+A.length*(w+1)) n (by omega)
  obtain⟨B',b1,b2,b3⟩:=Xdv (Q:=Q) (r:=r) A (B++[(2,0,(i:Int),(j:Int)+1,hd.1,q,v,mk)]) f (n+(w+1)) (fun y hy=>hA y (List.mem_cons_of_mem _ hy)) (fun y hy=>by
   rcases List.mem_append.1 hy with hy |hy
   ·exact hB y hy
   ·exact⟨i,j,q,v,mk,hi,hj,by omega,k1,hQ,List.mem_singleton.1 hy⟩) (by simp;omega) (by omega)
  refine⟨B',b1,by rw[b2];simp;omega,?_⟩
  rw[List.length_cons,e1,show f+(A.length*(w+1)+(w+1))=f+A.length*(w+1)+(w+1) by omega,List.cons_append,k2,List.append_assoc,b3,show n+(w+1)+A.length*(w+1)=n+(A.length*(w+1)+(w+1)) by omega]
theorem Xdw{Q:List (List (List Int))}(hN:N≤16)(hys:X.y.2.1=(s:Int))(hQN:Q.length=N):∀(B:List Note)(r:Rdr)(f n:Nat),RdrOK X.y hd s N Q r→(∀x∈B,AnsN hd.1 s N w Q x)→B.length≤200→n+B.length≤5000→
  ∃r',SL (f+B.length) (n:Int) (wld X (svs s X.y hd H noj) B r)=SL f ((n+B.length:Nat):Int) (wld X (svs s X.y hd H noj) [] r')
 | [],r,f,n,_,_,_,_=>⟨r,by simp⟩
 |x::B,r,f,n,hr,hB,hl,hn=>by
  obtain⟨i,j,q,v,mk,hi,hj,hq,hv,hQ,rfl⟩:=hB _ List.mem_cons_self
  simp only [List.length_cons] at hl hn
  obtain⟨r',e,g1,g2⟩:=Xi5 hs (C:=B) (by omega) hj (X:=X) (H:=H) hr hN hi (q:=q) (v:=v) hq (by omega) hQ hys hQN mk (js:=noj) (0,0,0,[])
  have:=Xdu hs (f+B.length) n (by omega) g1
  obtain⟨r2,k⟩:=Xdw hN hys hQN B r' f (n+1) g2 (fun y hy=>hB y (List.mem_cons_of_mem _ hy)) (by omega) (by omega)
  exact⟨r2,by rw[List.length_cons,show f+(B.length+1)=f+B.length+1 by omega,this,k,show n+1+B.length=n+(B.length+1) by omega]⟩
theorem Xi9{Q:List (List (List Int))}(hN:N≤16)(hys:X.y.2.1=(s:Int))(hQN:Q.length=N){r:Rdr}(hr:RdrOK X.y hd s N Q r){A:List Note}(hA:∀x∈A,QryN p u hd.1 s N Q x)(hl:A.length≤200)(hm:A.length*(w+1)+A.length<5000):
  ∃r',X95 (wld X (svs s X.y hd H noj) A r) 5000=some (wld X (svs s X.y hd H noj) [] r',((A.length*(w+1)+A.length:Nat):Int)):=by
 obtain⟨B,b1,b2,b3⟩:=Xdv hs hli hf hp hw hwd hu hH (N:=N) (Q:=Q) (r:=r) A [] (big-A.length*(w+1)) 0 hA (fun x hx=>by cases hx) (by simp;omega) (by omega)
 rw[List.append_nil] at b3
 simp only [List.length_nil,Nat.add_zero,Nat.zero_add] at b2 b3
 obtain⟨r',k⟩:=Xdw hs hli hf hp hw hwd hu hH (N:=N) (Q:=Q) hN hys hQN B r (big-A.length*(w+1)-B.length) (A.length*(w+1)) hr b1 (by omega) (by omega)
 refine⟨r',?_⟩
 show SL big 0 _=_
 have e:big-A.length*(w+1)+A.length*(w+1)=big:=by simp only [big];omega
 have e2:big-A.length*(w+1)-B.length+B.length=big-A.length*(w+1):=by simp only [big];omega
 rw[e] at b3
 rw[e2] at k
 have e3:big-A.length*(w+1)-B.length=(big-A.length*(w+1)-B.length-1)+1:=by simp only [big];omega
 rw[show(0:Int)=((0:Nat):Int) from rfl,b3,k,e3,Xls hs _ _ (by omega),b2]
end
end Go.Proofs.YtnfalgmfmiolbaaGreat.Hh
end

section
namespace Go.Proofs.YtnfalgmfmiolbaaGreat.Hh
set_option linter.unusedVariables false
set_option maxRecDepth 100000
theorem Xj2{d:List Int×Int}(hd:DiceOK d):∃p e,X41 d=some (p,e)∧Fp p∧7≤p∧X4k p=some (p,true)∧DiceOK e:=by
 unfold X41
 obtain⟨v,e,h1,h2,h3,h4⟩:=dpick hd (n:=4) (by omega)
 rw[h1,Option.bind_some]
 rcases(by omega:v=0∨v=1∨v=2∨v=3) with rfl |rfl |rfl |rfl
 ·exact⟨7,e,rfl,fp7,by omega,by kernel_rfl,h4⟩
 ·exact⟨11,e,rfl,fp11,by omega,by kernel_rfl,h4⟩
 ·exact⟨13,e,rfl,fp13,by omega,by kernel_rfl,h4⟩
 ·exact⟨257,e,rfl,fp257,by omega,by kernel_rfl,h4⟩
theorem Xia{p:Int}(hp:2≤p∧p≤65521){n:Nat}(hn:n≤100):∀(m f i:Nat)(acc:List Int)(d:List Int×Int),i+m=n→m<f→acc.length=i→El p acc→DiceOK d→
  ∃l e,Xm (n:Int) p f acc (i:Int) d.1 d.2=some (l,e)∧l.length=n∧El p l∧DiceOK e
 |m,0,i,_,_,_,hf,_,_,_=>by omega
 |0,f+1,i,acc,d,hi,_,ha,he,hd=>by
  rw[Xm]
  unfold X13
  rw[if_neg (by omega)]
  exact⟨acc,_,rfl,by omega,he,hd⟩
 |m+1,f+1,i,acc,d,hi,hf,ha,he,hd=>by
  rw[Xm]
  unfold X13
  obtain⟨v,e,h1,h2,h3,h4⟩:=dpick (d:=(d.1,d.2)) hd (n:=256) (by omega)
  obtain⟨u,e2,k1,k2,k3,k4⟩:=dpick h4 (n:=2) (by omega)
  rw[if_pos (by omega),h1,Option.bind_some,k1,Option.bind_some,nzp hp,Option.bind_some,X2 (by simp;omega),Option.bind_some,w64_id (x:=(i:Int)+1) (by omega) (by omega),show(i:Int)+1=((i+1:Nat):Int) by omega]
  refine Xia hp hn m f (i+1) _ e2 (by omega) (by omega) (by simp [ha]) (fun x hx=>?_) k4
  rcases List.mem_append.1 hx with hx |hx
  ·exact he x hx
  ·rw[List.mem_singleton.1 hx,w64_id (x:=u*128) (by omega) (by omega),w64_id (by omega) (by omega),Int.tmod_eq_emod_of_nonneg (by omega)]
   exact E1.emod hp.1 _
theorem Xjq{p:Int}(hp:2≤p∧p≤65521){n w:Nat}(hn:n≤100)(hw:w≤100):∀(m f i:Nat)(acc:List (List Int))(d:List Int×Int),i+m=n→m<f→acc.length=i→Rw p w acc→DiceOK d→
  ∃l e,Xy (n:Int) (w:Int) p f acc (i:Int) d.1 d.2=some (l,e)∧l.length=n∧Rw p w l∧DiceOK e
 |m,0,i,_,_,_,hf,_,_,_=>by omega
 |0,f+1,i,acc,d,hi,_,ha,he,hd=>by
  rw[Xy]
  unfold X2q
  rw[if_neg (by omega)]
  exact⟨acc,_,rfl,by omega,he,hd⟩
 |m+1,f+1,i,acc,d,hi,hf,ha,he,hd=>by
  rw[Xy]
  unfold X2q X3v
  obtain⟨l,e,h1,h2,h3,h4⟩:=Xia hp hw w big 0 [] (d.1,d.2) (by omega) (by simp only [big];omega) rfl El.nil hd
  rw[show((0:Nat):Int)=0 from rfl] at h1
  rw[if_pos (by omega),h1,Option.bind_some,X2 (by simp;omega),Option.bind_some,w64_id (x:=(i:Int)+1) (by omega) (by omega),show(i:Int)+1=((i+1:Nat):Int) by omega]
  refine Xjq hp hn hw m f (i+1) _ e (by omega) (by omega) (by simp [ha]) (fun x hx=>?_) h4
  rcases List.mem_append.1 hx with hx |hx
  ·exact he x hx
  ·rw[List.mem_singleton.1 hx];exact⟨h2,h3⟩
theorem Xib{p:Int}(hp:2≤p∧p≤65521){d:List Int×Int}(hd:DiceOK d):∃(num:Int)(w:Nat)(R:List (List Int))(e:List Int×Int),X42 d p=some ((num,p,(w:Int),R),e)∧1≤num∧num≤3∧1≤w∧w≤3∧1≤R.length∧R.length≤5∧Rw p w R∧DiceOK e:=by
 unfold X42 X6v
 obtain⟨a,e1,a1,a2,a3,a4⟩:=dpick hd (n:=3) (by omega)
 obtain⟨b,e2,b1,b2,b3,b4⟩:=dpick a4 (n:=3) (by omega)
 obtain⟨c,e3,c1,c2,c3,c4⟩:=dpick b4 (n:=5) (by omega)
 obtain⟨l,e,h1,h2,h3,h4⟩:=Xjq hp (n:=(1+c).toNat) (w:=(1+a).toNat) (by omega) (by omega) (1+c).toNat big 0 [] e3 (by omega) (by simp only [big];omega) rfl (fun r hr=>by cases hr) c4
 rw[show(((1+c).toNat:Nat):Int)=1+c by omega,show(((1+a).toNat:Nat):Int)=1+a by omega,show((0:Nat):Int)=0 from rfl] at h1
 rw[a1,Option.bind_some,b1,Option.bind_some,c1,Option.bind_some,w64_id (x:=1+c) (by omega) (by omega),w64_id (x:=1+a) (by omega) (by omega),w64_id (x:=1+b) (by omega) (by omega),h1,Option.bind_some]
 exact⟨1+b,(1+a).toNat,l,e,by rw[show(((1+a).toNat:Nat):Int)=1+a by omega],by omega,by omega,by omega,by omega,by omega,by omega,h3,h4⟩
theorem Xjr{n:Nat}(hn:n≤1000):∀(m f:Nat)(acc:List Int)(d:List Int×Int),m<f→m≤3→acc.length+m≤10→(∀x∈acc, -1≤x∧x<(n:Int))→DiceOK d→
  ∃l e,Xz (n:Int) f acc (m:Int) d.1 d.2=some (l,e)∧l.length=acc.length+m∧(∀x∈l, -1≤x∧x<(n:Int))∧DiceOK e
 |m,0,_,_,hf,_,_,_,_=>by omega
 |0,f+1,acc,d,_,_,_,he,hd=>by
  rw[Xz]
  unfold X2s
  rw[if_neg (by omega)]
  exact⟨acc,_,rfl,by omega,he,hd⟩
 |m+1,f+1,acc,d,hf,hm,hl,he,hd=>by
  rw[Xz]
  unfold X2s
  obtain⟨v,e,h1,h2,h3,h4⟩:=dpick (d:=(d.1,d.2)) hd (n:=(n:Int)+1) (by omega)
  rw[if_pos (by omega),w64_id (x:=(n:Int)+1) (by omega) (by omega),h1,Option.bind_some,X2 (by simp;omega),Option.bind_some,w64_id (x:=v-1) (by omega) (by omega),w64_id (x:=((m+1:Nat):Int)-1) (by omega) (by omega),show((m+1:Nat):Int)-1=(m:Int) by omega]
  obtain⟨l,e',k1,k2,k3,k4⟩:=Xjr hn m f (acc++[v-1]) e (by omega) (by omega) (by simp;omega) (fun x hx=>by
   rcases List.mem_append.1 hx with hx |hx
   ·exact he x hx
   ·rw[List.mem_singleton.1 hx];omega) h4
  exact⟨l,e',k1,by rw[k2];simp;omega,k3,k4⟩
theorem Xj3{n:Nat}(hn:n≤1000){d:List Int×Int}(hd:DiceOK d):∃rows e,X4v d (n:Int)=some (rows,e)∧1≤rows.length∧rows.length≤3∧∀x∈rows, -1≤x∧x<(n:Int):=by
 unfold X4v
 obtain⟨a,e1,a1,a2,a3,a4⟩:=dpick hd (n:=3) (by omega)
 obtain⟨l,e,k1,k2,k3,k4⟩:=Xjr hn (1+a).toNat big [] e1 (by simp only [big];omega) (by omega) (by simp;omega) (fun x hx=>by cases hx) a4
 rw[show(((1+a).toNat:Nat):Int)=1+a by omega] at k1
 rw[a1,Option.bind_some,w64_id (x:=1+a) (by omega) (by omega),k1]
 exact⟨l,e,rfl,by rw[k2];simp;omega,by rw[k2];simp;omega,k3⟩
end Go.Proofs.YtnfalgmfmiolbaaGreat.Hh
end

section
namespace Go.Proofs.YtnfalgmfmiolbaaGreat.Hh
set_option linter.unusedVariables false
set_option maxRecDepth 100000
theorem Xlt{a b A B:Int}(ha:1≤a∧a≤A)(hb:1≤b∧b≤B):1≤a*b∧a*b≤A*B:=by
 constructor
 ·have:=Int.mul_le_mul ha.1 hb.1 (by omega) (by omega);omega
 ·exact Int.mul_le_mul ha.2 hb.2 (by omega) (by omega)
theorem Xlu:((List.range 301).all fun l=>(List.range 17).all fun p=>decide (X60 (IntKind.u64.wrap (l:Int)) (IntKind.u64.wrap (p:Int))=some (0,(l:Int)*(p:Int))))=true:=by kernel_rfl
theorem Xnr{l p:Nat}(hl:l≤300)(hp:p≤16):X60 (IntKind.u64.wrap (l:Int)) (IntKind.u64.wrap (p:Int))=some (0,(l:Int)*(p:Int)):=
 of_decide_eq_true (List.all_eq_true.1 (List.all_eq_true.1 Xlu l (List.mem_range.2 (by omega))) p (List.mem_range.2 (by omega)))
theorem Xgr{α:Type}(l src:List α){i:Int}{n:Nat}(h0:0≤i)(h:i.toNat+min src.length n≤l.length):(lcpy l i n src).length=l.length:=by
 unfold lcpy
 simp only [List.length_append,List.length_take,List.length_drop]
 omega
theorem Xns(N:Nat)(hN:N≤100000):∀(m fuel:Nat)(v:Nat)(l:List Int),1≤v→v≤N→N-v≤m→m<fuel→l.length=N→∃r,Xl fuel (v:Int) l=some r∧r.length=N
 |m,0,_,_,_,_,_,h,_=>by omega
 |m,fuel+1,v,l,h1,h2,h3,h4,hl=>by
  rw[Xl]
  unfold X15
  by_cases hc:(v:Int)<(l.length:Int)
  ·rw[if_pos hc]
   unfold psub
   rw[if_pos (by omega),Option.bind_some,if_pos (by omega),Option.bind_some]
   dsimp only
   rw[X3t (by omega) (by omega) (by omega),Option.bind_some,X3t (by omega) (by omega) (by omega),Option.bind_some]
   have e1:((l.drop (0+(v:Int)).toNat).take (0+((l.length:Int)-0)-(0+(v:Int))).toNat).length=N-v:=by simp;omega
   have e2:((l.drop (0+(0:Int)).toNat).take (0+(v:Int)-(0+0)).toNat).length=v:=by simp;omega
   rw[e1,e2,w64_id (by omega) (by omega)]
   cases m with
   |zero=>omega
   |succ m=>
    obtain⟨r,k1,k2⟩:=Xns N hN m fuel (v+min v (N-v)) (lcpy l (0+(v:Int)) (N-v) ((l.drop (0+(0:Int)).toNat).take (0+(v:Int)-(0+0)).toNat)) (by omega) (by omega) (by omega) (by omega) (by rw[Xgr _ _ (by omega) (by rw[e2];omega)];exact hl)
    refine⟨r,?_,k2⟩
    rw[← k1]
    congr 1
  ·rw[if_neg hc];exact⟨l,rfl,hl⟩
theorem Xic{l:List Int}{p:Int}(hl:1≤l.length∧l.length≤300)(hp:1≤p∧p≤16):∃r,X12 l p=some r∧(r.length:Int)=l.length*p:=by
 obtain⟨q,rfl⟩:∃q:Nat,p=(q:Int):=⟨p.toNat,by omega⟩
 unfold X12
 rw[if_neg (by omega)]
 unfold X17
 rw[Xnr hl.2 (by omega),Option.bind_some]
 have hz:=Xlt (a:=(l.length:Int)) (b:=(q:Int)) (A:=300) (B:=16) (by omega) (by omega)
 have hz2:(l.length:Int)≤l.length*q:=by
  have:=Int.mul_le_mul_of_nonneg_left hp.1 (show(0:Int)≤l.length by omega);omega
 dsimp only
 rw[if_neg (by omega)]
 unfold X16
 rw[w64_id (by omega) (by omega),show lmk ((l.length:Int)*(q:Int)) (0:Int)=some (List.replicate ((l.length:Int)*(q:Int)).toNat 0) from by unfold lmk;rw[if_pos ⟨by omega,by omega⟩],Option.bind_some,X3t (by omega) (by omega) (by simp),Option.bind_some]
 generalize hM:((l.length:Int)*(q:Int))=M at hz hz2 ⊢
 have e:((List.replicate M.toNat (0:Int)).drop (0:Int).toNat).take (((List.replicate M.toNat (0:Int)).length:Int)-0).toNat=List.replicate M.toNat 0:=by simp;omega
 rw[e]
 have hlen:(List.replicate M.toNat (0:Int)).length=M.toNat:=by simp
 rw[hlen,show min l.length M.toNat=l.length by omega]
 obtain⟨r,r1,r2⟩:=Xns M.toNat (by omega) M.toNat big l.length (lcpy (List.replicate M.toNat 0) 0 M.toNat l) hl.1 (by omega) (by omega) (by simp only [big];omega) (by rw[Xgr _ _ (by omega) (by rw[hlen];show 0+min l.length M.toNat≤M.toNat;omega),hlen])
 exact⟨r,r1,by omega⟩
section
variable{p:Int}(hf:Fp p)(hr:X4k p=some (p,true)){y:Sch}{s k:Nat}{c:Nat→Nat}(h:SOK p y s k c)
include hf hr h
theorem SOK.svalid:X5h y p=some true:=by
 have hc:X8d p=some 0:=by unfold X8d;rw[hr,Option.bind_some,if_neg (by simp)]
 have hsh:X74 y=some true:=by
  unfold X74 X1i
  cases h with
  |par s h=>dsimp only;rw[Option.bind_some,decide_eq_true (by omega),if_neg (by decide),if_pos rfl,decide_eq_true ⟨rfl,rfl⟩]
  |cv s d h=>
   obtain⟨h1,h2,h3,h4,h5⟩:=h
   dsimp only
   rw[Option.bind_some,decide_eq_true (by omega),if_neg (by decide),if_neg (by omega),if_pos rfl,w64_id (by omega) (by omega),Option.bind_some,decide_eq_true ⟨decide_eq_true (by omega),rfl⟩]
  |cd s D G h hG=>
   obtain⟨h1,h2,h3,h4,h5,h6⟩:=h
   dsimp only
   rw[Option.bind_some,decide_eq_true (by omega),if_neg (by decide),if_neg (by omega),if_neg (by omega),if_pos rfl,Option.bind_some,decide_eq_true (p:=(1≤(D:Int)∧(D:Int)≤(s:Int))) (by omega),if_pos rfl,Option.bind_some,Option.bind_some,decide_eq_true (p:=(1≤(G:Int)∧(G:Int)≤(s:Int))) (by omega),w64_id (x:=2*(G:Int)) (by omega) (by omega),w64_id (x:=2*(G:Int)+D) (by omega) (by omega),w64_id (by omega) (by omega),decide_eq_true ⟨rfl,by omega⟩]
 unfold X5h
 rw[hsh,Option.bind_some,if_pos rfl,hc,Option.bind_some,Option.bind_some]
 refine congrArg some (decide_eq_true ⟨by simp,?_⟩)
 cases h with
 |par s h=>exact .inl rfl
 |cv s d h=>exact .inr h.2.2.2.2
 |cd s D G h hG=>exact .inr h.2.2.1
theorem SOK.slim{n:Nat}(hn:1≤n∧n≤5):∃l,X5z y p (n:Int)=some (l,0)∧l.length=c n∧1≤c n∧c n≤300:=by
 have hv:=SOK.svalid hf hr h
 have hrg:=hf.rng
 unfold X5z X9s X1i
 rw[hv,Option.bind_some,if_neg (by decide),Option.bind_some,decide_eq_true (by omega),if_neg (by decide),Option.bind_some,if_neg (by decide)]
 unfold X7p
 cases h with
 |par s h=>
  rw[if_pos rfl,Option.bind_some]
  dsimp only
  unfold X3u X7q X8y
  have h1:1*(s-1)≤n*(s-1):=Nat.mul_le_mul_right _ hn.1
  have h2:n*(s-1)≤5*(s-1):=Nat.mul_le_mul_right _ hn.2
  rw[hr,Option.bind_some,if_neg (by simp),if_neg (by omega),Option.bind_some,if_neg (by decide),w64_id (x:=(s:Int)-1) (by omega) (by omega),show(n:Int)*((s:Int)-1)=((n*(s-1):Nat):Int) by rw[show(s:Int)-1=((s-1:Nat):Int) by omega];simp,w64_id (by omega) (by omega),fils (m:=n*(s-1)) (by omega) p (X3c ((n*(s-1):Nat):Int) p) (fun _ _ _=>rfl),Option.bind_some,Option.bind_some]
  exact⟨_,rfl,by simp,by omega,by omega⟩
 |cv s d h=>
  obtain⟨h1,h2,h3,h4,h5⟩:=h
  rw[if_neg (by simp),if_pos rfl,Option.bind_some]
  dsimp only
  unfold X2n X8z X9v X9u X9t
  have g1:1*d≤n*d:=Nat.mul_le_mul_right _ hn.1
  have g2:n*d≤5*d:=Nat.mul_le_mul_right _ hn.2
  rw[hr,Option.bind_some,if_neg (by simp),Option.bind_some,decide_eq_true (by omega),if_neg (by simp;omega),Option.bind_some,if_neg (by omega),Option.bind_some,if_neg (by decide)]
  dsimp only
  rw[show(n:Int)*(d:Int)=((n*d:Nat):Int) by simp,w64_id (by omega) (by omega),fils (m:=n*d) (by omega) p (X3y ((n*d:Nat):Int) p) (fun _ _ _=>rfl),Option.bind_some,Option.bind_some]
  exact⟨_,rfl,by simp,by omega,by omega⟩
 |cd s D G h hG=>
  have h':=h
  obtain⟨h1,h2,h3,h4,h5,h6⟩:=h'
  have hle:=Xds (n:=n) h5
  have hpos:=Xg3 (n:=n) h5 hn.1
  rw[if_neg (by simp),if_neg (by simp)]
  unfold X6u
  rw[Option.bind_some,Option.bind_some]
  dsimp only
  have hu:X1l ((s:Int),(D:Int),(G:Int)) (n:Int)=some ((ngr n G:Nat):Int):=by
   unfold X1l
   dsimp only
   have hz:((n:Int)+G-1).tdiv (G:Int)=((ngr n G:Nat):Int):=by
    rw[Int.tdiv_eq_ediv_of_nonneg (by omega)]
    unfold ngr
    rw[show(n:Int)+G-1=((n+G-1:Nat):Int) by omega]
    exact(Int.natCast_ediv _ _).symm
   rw[Xhl (by omega),Option.bind_some,w64_id (x:=(n:Int)+G) (by omega) (by omega),w64_id (x:=(n:Int)+G-1) (by omega) (by omega),hz,w64_id (by omega) (by omega)]
  unfold X2o X90 X9x X9w
  rw[hu,Option.bind_some,hr,Option.bind_some,if_neg (by simp)]
  dsimp only
  generalize hm:ngr n G=m at*
  have g1:1*D≤m*D:=Nat.mul_le_mul_right _ (by omega)
  have g2:m*D≤5*D:=Nat.mul_le_mul_right _ (by omega)
  rw[w64_id (x:=2*(G:Int)) (by omega) (by omega),w64_id (x:=2*(G:Int)+D) (by omega) (by omega),w64_id (x:=2*(G:Int)+D-1) (by omega) (by omega),if_neg (by omega),Option.bind_some,if_neg (by omega),Option.bind_some,if_neg (by decide),show(m:Int)*(D:Int)=((m*D:Nat):Int) by simp,w64_id (by omega) (by omega),fils (m:=m*D) (by omega) p (X3z ((m*D:Nat):Int) p) (fun _ _ _=>rfl),Option.bind_some,Option.bind_some]
  exact⟨_,rfl,by simp [hm],by subst hm;omega,by subst hm;omega⟩
theorem SOK.draws{n:Nat}(hn:1≤n∧n≤5){m:Nat}(hm:1≤m∧m≤3):X5i y p (n:Int) (m:Int)=some (((m*c n:Nat):Int),0):=by
 obtain⟨l,l1,l2,l3,l4⟩:=SOK.slim hf hr h hn
 obtain⟨r,r1,r2⟩:=Xic (l:=l) (p:=(m:Int)) (by omega) (by omega)
 unfold X5i X9y X8e
 rw[SOK.svalid hf hr h,Option.bind_some,if_neg (by decide),Option.bind_some,decide_eq_true (by omega),if_neg (by decide),Option.bind_some,Option.bind_some,decide_eq_true (by omega),if_neg (by decide),l1,Option.bind_some,if_neg (by simp),r1,Option.bind_some,Option.bind_some]
 rw[r2,l2,Nat.mul_comm m]
 simp
end
end Go.Proofs.YtnfalgmfmiolbaaGreat.Hh
end

section
namespace Go.Proofs.YtnfalgmfmiolbaaGreat.Hh
set_option linter.unusedVariables false
set_option maxRecDepth 100000
theorem mod11(x:Int):∃z,X78 x=some z∧0≤z∧z<2147483647:=by
 unfold X78
 have h1: -2147483647<Int.tmod x 2147483647∧Int.tmod x 2147483647<2147483647:=by
  refine⟨?_,Int.tmod_lt_of_pos _ (by omega)⟩
  have:=Int.lt_tmod_of_pos x (show(0:Int)<2147483647 by omega)
  omega
 rw[w64_id (by omega) (by omega)]
 exact⟨_,rfl,Int.tmod_nonneg _ (by omega),Int.tmod_lt_of_pos _ (by omega)⟩
theorem row11:∀(l:List Int)(v:Int),0≤v→v<2147483647→∃z,X1u l v=some z∧0≤z∧z<2147483647
 | [],v,h0,h1=>⟨v,rfl,h0,h1⟩
 |x::l,v,h0,h1=>by
  show ∃z,X44 (X1u l) x v=some z∧_
  unfold X44
  obtain⟨u,hu,u0,u1⟩:=mod11 x
  rw[hu,Option.bind_some,w64_id (x:=v*1000003) (by omega) (by omega),w64_id (x:=v*1000003+u) (by omega) (by omega),w64_id (x:=v*1000003+u+1) (by omega) (by omega)]
  exact row11 l _ (Int.tmod_nonneg _ (by omega)) (Int.tmod_lt_of_pos _ (by omega))
theorem Xjs:∀(R:List (List Int))(acc:List Int),acc.length+R.length≤1000→(∀x∈acc,0≤x∧x<2147483647)→∃D,X1a R acc=some (D,0)∧D.length=acc.length+R.length∧∀x∈D,0≤x∧x<2147483647
 | [],acc,_,h=>⟨acc,rfl,by simp,h⟩
 |r::R,acc,hl,h=>by
  show ∃D,X3e (X1a R) r acc=some (D,0)∧_
  unfold X3e X9h
  simp only [List.length_cons] at hl
  obtain⟨z,hz,z0,z1⟩:=row11 r 2 (by omega) (by omega)
  rw[hz,Option.bind_some,X2 (by simp;omega),Option.bind_some]
  obtain⟨D,d1,d2,d3⟩:=Xjs R (acc++[z]) (by simp;omega) (fun x hx=>by
   rcases List.mem_append.1 hx with hx |hx
   ·exact h x hx
   ·rw[List.mem_singleton.1 hx];exact⟨z0,z1⟩)
  exact⟨D,d1,by rw[d2];simp;omega,d3⟩
theorem list12:∀D:List Int,(∀x∈D,0≤x∧x<2147483647)→X31 D=some 0
 | [],_=>rfl
 |x::D,h=>by
  show X62 (X31 D) x=_
  unfold X62
  have:=h x List.mem_cons_self
  rw[if_neg (by omega)]
  exact list12 D fun y hy=>h y (List.mem_cons_of_mem _ hy)
theorem Xj4(a b:Int):∃z,X9i a b=some z:=by
 unfold X9i
 obtain⟨u,hu,_,_⟩:=mod11 a
 obtain⟨v,hv,_,_⟩:=mod11 b
 rw[hu,Option.bind_some,hv,Option.bind_some]
 exact⟨_,rfl⟩
theorem up_L{D:List Int}(hD:D.length≤1000):∀(m f i:Nat)(acc:List Int),i=2*acc.length→D.length≤i+2*m→m<f→acc.length≤1000→i≤D.length+1→∃U,X5c D f acc (i:Int)=some U∧U.length=(D.length+1)/2
 |m,0,i,acc,_,_,h,_,_=>by omega
 |0,f+1,i,acc,hi,hm,_,ha,hb=>by
  rw[X5c]
  unfold X8l
  rw[if_neg (by omega)]
  exact⟨acc,rfl,by omega⟩
 |m+1,f+1,i,acc,hi,hm,hf,ha,hb=>by
  rw[X5c]
  unfold X8l
  by_cases h1:(i:Int)<(D.length:Int)
  ·rw[if_pos h1,w64_id (x:=(i:Int)+1) (by omega) (by omega),w64_id (x:=(i:Int)+2) (by omega) (by omega),show(i:Int)+2=((i+2:Nat):Int) by omega]
   by_cases h2:(i:Int)+1<(D.length:Int)
   ·rw[if_pos h2,lget (by omega),Option.bind_some,show(i:Int)+1=((i+1:Nat):Int) by omega,lget (by omega),Option.bind_some]
    obtain⟨z,hz⟩:=Xj4 (D[i]'(by omega)) (D[i+1]'(by omega))
    rw[hz,Option.bind_some,X2 (by simp;omega),Option.bind_some]
    exact up_L hD m f (i+2) _ (by simp;omega) (by omega) (by omega) (by simp;omega) (by omega)
   ·rw[if_neg h2,lget (by omega),Option.bind_some,X2 (by simp;omega),Option.bind_some]
    exact up_L hD m f (i+2) _ (by simp;omega) (by omega) (by omega) (by simp;omega) (by omega)
  ·rw[if_neg h1];exact⟨acc,rfl,by omega⟩
theorem Xjt:∀(m f:Nat)(D:List Int),D.length≤m→m<f→1≤D.length→D.length≤1000→∃z,X4n X1v f D=some (z,0)
 |m,0,D,_,h,_,_=>by omega
 |0,f+1,D,h,_,h1,_=>by omega
 |m+1,f+1,D,hm,hf,h1,h2=>by
  rw[X4n]
  unfold X7s
  by_cases hl:1<(D.length:Int)
  ·rw[if_pos hl]
   unfold Xcf
   obtain⟨U,u1,u2⟩:=up_L h2 D.length big 0 [] rfl (by omega) (by simp only [big];omega) (by simp) (by omega)
   rw[show((0:Nat):Int)=0 from rfl] at u1
   rw[u1,Option.bind_some]
   exact Xjt m f U (by omega) (by omega) (by omega) (by omega)
  ·rw[if_neg hl]
   unfold X1v
   rw[show(0:Int)=((0:Nat):Int) from rfl,lget (by omega),Option.bind_some]
   exact⟨_,rfl⟩
theorem Xlv{p:Int}(hf:Fp p){num:Int}(hn:1≤num∧num<2147483647){w:Nat}(hw:1≤w∧w≤64){R:List (List Int)}(hR:Rw p w R)(hl:1≤R.length∧R.length≤64):∃root,X2r (num,p,(w:Int),R)=some ((num,p,(R.length:Int),(w:Int),root),0):=by
 unfold X2r X7r
 obtain⟨D,d1,d2,d3⟩:=Xjs R [] (by simp;omega) (fun x hx=>by cases hx)
 rw[tcheck hf hw hR (by omega) hn,Option.bind_some,if_neg (by decide)]
 dsimp only
 rw[d1,Option.bind_some,if_neg (by simp)]
 unfold Xau Xat
 simp only [List.length_nil,Nat.zero_add] at d2
 obtain⟨z,hz⟩:=Xjt D.length big D (by omega) (by simp only [big];omega) (by omega) (by omega)
 dsimp only
 rw[if_neg (by omega),list12 D d3,Option.bind_some,if_neg (by decide),if_neg (by omega),hz,Option.bind_some]
 exact⟨z,rfl⟩
end Go.Proofs.YtnfalgmfmiolbaaGreat.Hh
end

section
namespace Go.Proofs.YtnfalgmfmiolbaaGreat.Hh
set_option linter.unusedVariables false
set_option maxRecDepth 100000
section
variable{p:Int}(hp:2≤p∧p≤65521){s:Nat}(hs:s≤10)
 (kx:List Int→Int→Int→Int→List Int→Int→Int→Int→Int→Int→Int→Int→Int→Int→Int→Int→Option (Wld×(List Int×Int))) (num w y1 y3 y4:Int)
include hp hs
theorem Xid:∀(m f j:Nat)(acc:List Int)(most:Int)(d:List Int×Int),j+m=s→m<f→acc.length=j→El p acc→0≤most→most≤10→DiceOK d→
  ∃l e,Xk kx num p w y1 (s:Int) y3 y4 f most acc (j:Int) d.1 d.2=kx l num p w e.1 e.2 y1 (s:Int) y3 y4 0 0 0 0 0 0∧l.length=s∧El p l∧DiceOK e
 |m,0,j,_,_,_,_,h,_,_,_,_,_=>by omega
 |0,f+1,j,acc,most,d,hj,_,ha,he,h0,h1,hd=>by
  rw[Xk]
  unfold X1y
  rw[if_neg (by omega)]
  exact⟨acc,d,rfl,by omega,he,hd⟩
 |m+1,f+1,j,acc,most,d,hj,hf,ha,he,h0,h1,hd=>by
  rw[Xk]
  unfold X1y
  rw[if_pos (by omega)]
  have tail:∀(most' x:Int)(e:List Int×Int),0≤most'→most'≤10→E1 p x→DiceOK e→
    ∃l e',X18 (Xk kx num p w y1 (s:Int) y3 y4 f) (j:Int) acc most' x e.1 e.2=kx l num p w e'.1 e'.2 y1 (s:Int) y3 y4 0 0 0 0 0 0∧l.length=s∧El p l∧DiceOK e':=fun most' x e g0 g1 gx ge=>by
   unfold X18
   rw[X2 (by simp;omega),Option.bind_some,w64_id (by omega) (by omega),show(j:Int)+1=((j+1:Nat):Int) by omega]
   exact Xid m f (j+1) _ most' e (by omega) (by omega) (by simp [ha]) (fun z hz=>by
    rcases List.mem_append.1 hz with hz |hz
    ·exact he z hz
    ·rw[List.mem_singleton.1 hz];exact gx) g0 g1 ge
  have z0:E1 p 0:=⟨by omega,by omega⟩
  by_cases hm:0<most
  ·obtain⟨v,e,k1,k2,k3,k4⟩:=dpick (d:=(d.1,d.2)) hd (n:=3) (by omega)
   rw[if_pos hm,k1,Option.bind_some,Option.bind_some]
   dsimp only
   by_cases hv:v=0
   ·obtain⟨u,e2,q1,q2,q3,q4⟩:=dpick (d:=(e.1,e.2)) k4 (n:=p-1) (by omega)
    rw[if_pos (by simp [hv]),w64_id (x:=p-1) (by omega) (by omega),q1,Option.bind_some,w64_id (x:=most-1) (by omega) (by omega),w64_id (x:=1+u) (by omega) (by omega)]
    exact tail _ _ e2 (by omega) (by omega) ⟨by omega,by omega⟩ q4
   ·rw[if_neg (by simp [hv])]
    exact tail _ _ e h0 h1 z0 k4
  ·rw[if_neg hm,Option.bind_some,if_neg (by simp)]
   exact tail _ _ (d.1,d.2) h0 h1 z0 hd
end
end Go.Proofs.YtnfalgmfmiolbaaGreat.Hh
end

section
namespace Go.Proofs.YtnfalgmfmiolbaaGreat.Hh
set_option linter.unusedVariables false
set_option maxRecDepth 100000
theorem Xlw{p:Int}{y:Sch}{s k:Nat}{c:Nat→Nat}(h:SOK p y s k c){j:Nat}(hj:j<s):Xah ((j:Int)+1) y=some ((((j:Int)+1,y,true,[],[]):Srv),0):=by
 unfold Xah
 have:=h.srv
 rw[h.shape,Option.bind_some,if_neg (by decide),if_neg (by omega)]
theorem Xlx{p:Int}(hf:Fp p){y:Sch}{s k:Nat}{c:Nat→Nat}(h:SOK p y s k c){w:Nat}(hw:1≤w∧w≤64){R:List (List Int)}(hR:Rw p w R)(hn:1≤R.length∧R.length≤64){j:Nat}(hj:j<s){num:Int}(hnum:1≤num∧num<2147483647){root:Int}(hh:X2r (num,p,(w:Int),R)=some ((num,p,(R.length:Int),(w:Int),root),0)){H:List (List Int)}(hH:X5m y (num,p,(w:Int),R) ((j:Int)+1)=some (H,0)):
  X9k (((j:Int)+1,y,true,[],[]):Srv) (num,p,(w:Int),R)=some (srv y (num,p,(R.length:Int),(w:Int),root) H j [],0):=by
 unfold X9k
 dsimp only
 rw[if_neg (by decide),hh,Option.bind_some,if_neg (by simp),h.valid hf,Option.bind_some,if_neg (by decide),if_neg (by omega)]
 unfold X5k
 rw[Xfo,X4o]
 unfold X63
 rw[if_neg (by simp),Option.bind_some,if_neg (by decide),if_neg (by simp),hH,Option.bind_some,X69]
 unfold X7u
 rw[if_neg (by simp),Option.bind_some,if_neg (by decide)]
 unfold X35 X7t
 rw[X3t (by omega) (by omega) (by simp),Option.bind_some,X2 (by simp),Option.bind_some,X2 (by simp),Option.bind_some,X3t (by omega) (by simp) (by simp),Option.bind_some,X2 (by simp),Option.bind_some]
 rfl
end Go.Proofs.YtnfalgmfmiolbaaGreat.Hh
end

section
namespace Go.Proofs.YtnfalgmfmiolbaaGreat.Hh
set_option linter.unusedVariables false
set_option maxRecDepth 100000
def hld(y:Sch)(t:Tab)(j:Nat):List (List Int):=((X5m y t ((j:Int)+1)).getD ([],0)).1
section
variable{p:Int}(hf:Fp p){y:Sch}{s k:Nat}{c:Nat→Nat}(h:SOK p y s k c){w:Nat}(hw:1≤w∧w≤64){R:List (List Int)}(hR:Rw p w R)(hn:1≤R.length∧R.length≤64){num:Int}(hnum:1≤num∧num<2147483647)
include hf h hw hR hn hnum
theorem Xju{j:Nat}(hj:j<s):X5m y (num,p,(w:Int),R) ((j:Int)+1)=some (hld y (num,p,(w:Int),R) j,0)∧Rw p w (hld y (num,p,(w:Int),R) j)∧(hld y (num,p,(w:Int),R) j).length=unit y R.length:=by
 obtain⟨H,h1,h2,h3⟩:=SOK.held hf h hw hR hn hj hnum
 have e:hld y (num,p,(w:Int),R) j=H:=by unfold hld;rw[h1];rfl
 rw[e];exact⟨h1,h2,h3⟩
theorem Xnt{hd:Hed}(hh:X2r (num,p,(w:Int),R)=some (hd,0))(hhd:∃root,hd=(num,p,(R.length:Int),(w:Int),root)){li:List Int}(hli:li.length=s)(kx:Int→Int→Int→Int→(List Srv)→Int→Int→Int→Int→Int→Int→Int→Int→Int→Int→Int→Int→Int→Int→Int→Int→Int→Option (Wld×Int))
  (a1 a2 a3 a4 a5 a6 a7 a8 a9 b1 b2 b3 b4 b5 b6:Int):∀(m f j:Nat),j+m=s→m<f→
  X46 kx a1 a2 a3 a4 a5 a6 a7 a8 b1 b2 b3 b4 b5 b6 num p (w:Int) R y.1 y.2.1 y.2.2.1 y.2.2.2 li f ((j:Int)+1) (svs j y hd (hld y (num,p,(w:Int),R)) noj)=kx a1 a2 a3 a4 (svs s y hd (hld y (num,p,(w:Int),R)) noj) a5 a6 a7 a8 b1 b2 b3 b4 b5 b6 num p (w:Int) y.1 y.2.1 y.2.2.1 y.2.2.2:=by
 intro m
 induction m with
 |zero=>
  intro f j hj hf2
  obtain⟨f,rfl⟩:∃g,f=g+1:=⟨f-1,by omega⟩
  have e:=h.srv.1
  rw[X46]
  unfold X7a
  rw[e,if_neg (by omega)]
  have:j=s:=by omega
  subst this
  rfl
 |succ m ih=>
  intro f j hj hf2
  obtain⟨f,rfl⟩:∃g,f=g+1:=⟨f-1,by omega⟩
  have e:=h.srv
  obtain⟨root,rfl⟩:=hhd
  obtain⟨g1,g2,g3⟩:=Xju hf h hw hR hn hnum (j:=j) (by omega)
  rw[X46]
  unfold X7a
  rw[if_pos (by omega),show((y.1,y.2.1,y.2.2.1,y.2.2.2):Sch)=y from rfl,Xlw h (by omega),Option.bind_some,Xlx hf h hw hR hn (by omega) hnum hh g1,Option.bind_some,X2 (by rw[X5g];simp;omega),Option.bind_some,if_neg (by omega),w64_id (by omega) (by omega)]
  have e2:svs j y (num,p,(R.length:Int),(w:Int),root) (hld y (num,p,(w:Int),R)) noj++[srv y (num,p,(R.length:Int),(w:Int),root) (hld y (num,p,(w:Int),R) j) j []]=svs (j+1) y (num,p,(R.length:Int),(w:Int),root) (hld y (num,p,(w:Int),R)) noj:=by
   simp [svs,List.range_succ,noj]
  rw[e2,show(j:Int)+1+1=((j+1:Nat):Int)+1 by omega]
  exact ih f (j+1) (by omega) (by omega)
end
end Go.Proofs.YtnfalgmfmiolbaaGreat.Hh
end

section
namespace Go.Proofs.YtnfalgmfmiolbaaGreat.Hh
set_option linter.unusedVariables false
set_option maxRecDepth 100000
section
variable{p:Int}(hf:Fp p){y:Sch}{s k:Nat}{c:Nat→Nat}(h:SOK p y s k c){w:Nat}(hw:1≤w∧w≤64){R:List (List Int)}(hR:Rw p w R)(hn:1≤R.length∧R.length≤64){num:Int}(hnum:1≤num∧num<2147483647)
include hf h
theorem Xnu{li:List Int}(hli:li.length=s)(he:El p li)(kx:Int→Int→Int→Int→Int→Int→Int→Int→Int→Int→Int→Int→Int→Option (Wld×Int))(a1 a2 a3 a4 a5 a6 n1 w1 y1 y2 y3 y4:Int):∀(m f i:Nat),i+m=s→m<f→
  X47 kx li a1 a2 a3 a4 a5 a6 n1 p w1 y1 y2 y3 y4 f (i:Int)=kx a1 a2 a3 a4 a5 a6 n1 p w1 y1 y2 y3 y4:=by
 have hs:=h.srv
 intro m
 induction m with
 |zero=>
  intro f i hi hf2
  obtain⟨f,rfl⟩:∃g,f=g+1:=⟨f-1,by omega⟩
  rw[X47]
  unfold X7b
  rw[if_neg (by omega)]
 |succ m ih=>
  intro f i hi hf2
  obtain⟨f,rfl⟩:∃g,f=g+1:=⟨f-1,by omega⟩
  have hx:=he _ (List.getElem_mem (by omega:i<li.length))
  rw[X47]
  unfold X7b
  rw[if_pos (by omega),lget (by omega),Option.bind_some,if_neg (by have:=hx.1;omega),Option.bind_some,Option.bind_some,if_neg (by have:=hx.2;rw[decide_eq_false (by omega)];decide),w64_id (by omega) (by omega),show(i:Int)+1=((i+1:Nat):Int) by omega]
  exact ih f (i+1) (by omega) (by omega)
theorem Xnv(kx:Int→Int→Int→Int→Int→Int→Int→Int→Int→Int→Int→Int→Int→Option (Wld×Int))(n1 p1 w1:Int):∀(m f j:Nat),j+m=s→m<f→
  X48 kx ppl n1 p1 w1 y.1 y.2.1 y.2.2.1 y.2.2.2 f ((j:Int)+1)=kx 0 0 0 0 0 0 n1 p1 w1 y.1 y.2.1 y.2.2.1 y.2.2.2:=by
 have hs:=h.srv
 intro m
 induction m with
 |zero=>
  intro f j hj hf2
  obtain⟨f,rfl⟩:∃g,f=g+1:=⟨f-1,by omega⟩
  rw[X48]
  unfold X7c
  rw[if_neg (by omega)]
 |succ m ih=>
  intro f j hj hf2
  obtain⟨f,rfl⟩:∃g,f=g+1:=⟨f-1,by omega⟩
  rw[X48]
  unfold X7c
  rw[if_pos (by omega),Xey (by omega),Option.bind_some,if_neg (by simp),w64_id (by omega) (by omega),show(j:Int)+1+1=((j+1:Nat):Int)+1 by omega]
  exact ih f (j+1) (by omega) (by omega)
include hw hR hn hnum
theorem Xnw{hd:Hed}(hh:X2r (num,p,(w:Int),R)=some (hd,0))(hhd:∃root,hd=(num,p,(R.length:Int),(w:Int),root)){li:List Int}(hli:li.length=s)(he:El p li){seed:Int}(hsd:1≤seed∧seed≤250):
  Xaj y ppl (num,p,(w:Int),R) seed li=some ((y,ppl,[(num,p,(w:Int),R)],svs s y hd (hld y (num,p,(w:Int),R)) noj,[],[],(seed,0,[]),([],[num]),li,[]),0):=by
 have hs:=h.srv
 have hpl:ppl.length≤1000:=by
  have:decide (ppl.length≤1000)=true:=by kernel_rfl
  exact of_decide_eq_true this
 unfold Xaj
 dsimp only
 rw[Xi2,Option.bind_some,if_neg (by decide),tcheck hf hw hR (by omega) hnum,Option.bind_some,if_neg (by decide),h.valid hf,Option.bind_some,if_neg (by decide),if_neg (by omega)]
 have l7:=Xnv hf h (X2w ppl seed li R) num p (w:Int) s big 0 (by omega) (by simp only [big];omega)
 rw[show((0:Nat):Int)+1=1 from rfl] at l7
 rw[l7]
 unfold X2w
 have l5:=Xnu hf h hli he (X2v ppl seed li R) 0 0 0 0 0 0 num (w:Int) y.1 y.2.1 y.2.2.1 y.2.2.2 s big 0 (by omega) (by simp only [big];omega)
 rw[show((0:Nat):Int)=0 from rfl] at l5
 rw[if_neg (by omega),l5]
 unfold X2v Xbj
 rw[if_neg (by omega),Option.bind_some,if_neg (by simp),X2 (by simp;omega),Option.bind_some,X2 (by simp;omega),Option.bind_some,List.nil_append,List.nil_append]
 unfold X92 Xbk Xbl
 rw[tcheck hf hw hR (by omega) hnum,Option.bind_some,if_neg (by decide),Option.bind_some,if_neg (by omega),Option.bind_some]
 have l2:=Xnt hf h hw hR hn hnum hh hhd hli (X45 [(num,p,(w:Int),R)] [] [] [num] ppl li) y.1 y.2.1 y.2.2.1 y.2.2.2 seed 0 seed 0 0 0 0 0 0 0 0 s big 0 (by omega) (by simp only [big];omega)
 rw[show((0:Nat):Int)+1=1 from rfl,show svs 0 y hd (hld y (num,p,(w:Int),R)) noj=[] from rfl] at l2
 exact l2
end
end Go.Proofs.YtnfalgmfmiolbaaGreat.Hh
end

section
namespace Go.Proofs.YtnfalgmfmiolbaaGreat.Hh
set_option linter.unusedVariables false
set_option maxRecDepth 100000
section
variable{p:Int}(hp:2≤p∧p≤65521){M:Nat}(hM:M≤10000)
include hp hM
theorem Xie(kx:List Int→Int→Int→Option ((List Int×Int)×Int))(z:Int):∀(m:Nat)(v:Int)(acc:List Int),acc.length+m=M→0≤v→v<2147483647→El p acc→
  ∃T,X1p kx z (List.replicate m p) v acc=kx T 0 z∧T.length=M∧El p T
 |0,v,acc,hm,_,_,he=>⟨acc,rfl,by omega,he⟩
 |m+1,v,acc,hm,h0,h1,he=>by
  rw[List.replicate_succ]
  show ∃T,X4e _ z (X1p _ z (List.replicate m p)) p v acc=_∧_
  unfold X4e
  rw[nzp hp,Option.bind_some,X2 (by simp;omega),Option.bind_some,w64_id (x:=v*48271) (by omega) (by omega)]
  have g0:=Int.tmod_nonneg (a:=v*48271) 2147483647 (by omega)
  have g1:=Int.tmod_lt_of_pos (v*48271) (show(0:Int)<2147483647 by omega)
  exact Xie kx z m _ _ (by simp;omega) g0 g1 (fun x hx=>by
   rcases List.mem_append.1 hx with hx |hx
   ·exact he x hx
   ·rw[List.mem_singleton.1 hx,Int.tmod_eq_emod_of_nonneg g0];exact E1.emod hp.1 _)
theorem Xif(kx:Int→Option ((List Int×Int)×Int)):∀m:Nat,X1r kx (List.replicate m p)=kx 0
 |0=>rfl
 |m+1=>by
  rw[List.replicate_succ]
  show X4f kx (X1r kx (List.replicate m p)) p=_
  unfold X4f
  rw[if_neg (by omega)]
  exact Xif kx m
theorem Xig{seed:Int}(hs:1≤seed∧seed≤250):∃T,X7f seed (List.replicate M p)=some ((T,0),0)∧T.length=M∧El p T:=by
 unfold X7f
 rw[if_neg (by omega),if_neg (by simp;omega),Xif hp hM]
 unfold X1q
 obtain⟨T,t1,t2,t3⟩:=Xie hp hM X1o 0 M seed [] (by simp) (by omega) (by omega) El.nil
 exact⟨T,t1,t2,t3⟩
theorem Xly(kx:List Int→Int→Int→Int→Int→Int→Int→Option ((List Int)×Int))(z1 z2 z3 z4 z5:Int):∀(m f i:Nat),i+m=M→m<f→
  X37 kx z1 z2 z3 p z4 (M:Int) f (List.replicate i p) (i:Int)=kx (List.replicate M p) z1 z2 z3 p z4 (M:Int):=by
 intro m
 induction m with
 |zero=>
  intro f i hi hf
  obtain⟨f,rfl⟩:∃g,f=g+1:=⟨f-1,by omega⟩
  rw[X37]
  unfold X6b
  rw[if_neg (by omega)]
  have:i=M:=by omega
  subst this;rfl
 |succ m ih=>
  intro f i hi hf
  obtain⟨f,rfl⟩:∃g,f=g+1:=⟨f-1,by omega⟩
  rw[X37]
  unfold X6b
  rw[if_pos (by omega),X2 (by simp;omega),Option.bind_some,w64_id (by omega) (by omega),show(i:Int)+1=((i+1:Nat):Int) by omega, ← List.replicate_succ']
  exact ih f (i+1) (by omega) (by omega)
theorem Xih{seed:Int}(hs:1≤seed∧seed≤250)(n1:Int):∃T,X9m seed (0,n1,p,0,(M:Int))=some (T,0)∧T.length=M∧El p T:=by
 unfold X9m
 dsimp only
 rw[Xfo,X6c]
 unfold X7x
 rw[if_neg (by omega)]
 unfold X38
 have l3:=Xly hp hM (X1z seed) 0 0 n1 0 0 M big 0 (by omega) (by simp only [big];omega)
 rw[show List.replicate 0 p=[] from rfl,show((0:Nat):Int)=0 from rfl] at l3
 rw[l3]
 unfold X1z
 obtain⟨T,t1,t2,t3⟩:=Xig hp hM hs
 rw[t1,Option.bind_some]
 dsimp only
 rw[if_pos (by omega),X3t (by omega) (by omega) (by omega),Option.bind_some,X2 (by simp;omega),Option.bind_some]
 unfold X7w
 exact⟨_,rfl,by simp [t2],by simpa using t3⟩
theorem Xh0{seed:Int}(hs:1≤seed∧seed≤250){num:Int}(hn:1≤num∧num≤3):∃T,X8q (seed,0,[]) 0 num p (M:Int)=some ((seed,(M:Int),[(0,num,p,0,(M:Int))]),(T,0),0)∧T.length=M∧El p T:=by
 obtain⟨T,t1,t2,t3⟩:=Xih hp hM hs num
 refine⟨T,?_,t2,t3⟩
 unfold X8q Xa2
 dsimp only
 rw[if_neg (by simp;omega),Xfo,X4z]
 unfold X6z
 rw[if_neg (by simp),Option.bind_some,if_neg (by decide),if_neg (by omega),X50]
 unfold X71
 rw[if_neg (by simp),Option.bind_some,if_neg (by decide)]
 unfold X29
 rw[if_neg (by simp),Option.bind_some,if_neg (by decide),if_neg (by rw[w64_id (by omega) (by omega)];simp;omega),X3t (by omega) (by omega) (by simp),Option.bind_some,X2 (by simp),Option.bind_some,X2 (by simp),Option.bind_some]
 unfold X70
 rw[X3t (by omega) (by simp) (by simp),Option.bind_some,X2 (by simp),Option.bind_some,t1,Option.bind_some,w64_id (x:=0+(M:Int)) (by omega) (by omega)]
 simp
end
end Go.Proofs.YtnfalgmfmiolbaaGreat.Hh
end

section
namespace Go.Proofs.YtnfalgmfmiolbaaGreat.Hh
set_option linter.unusedVariables false
set_option maxRecDepth 100000
theorem Xlz{num:Int}(hn:1≤num∧num≤3):X9l ([],[num]) 0=some (([(0,num)],[num]),num,0):=by
 unfold X9l Xa1
 dsimp only
 rw[if_neg (by simp),Xfo,X3s]
 unfold X4y
 rw[if_pos (by simp),show lidx [num] (0:Int)=some num from rfl,Option.bind_some,if_neg (by omega),Option.bind_some,Option.bind_some,if_neg (by rw[decide_eq_false (by omega)];decide),if_neg (by omega),Option.bind_some,Option.bind_some,if_neg (by decide),w64_id (x:=0+1) (by omega) (by omega)]
 rw[show big-1=(big-2)+1 from by simp only [big],X3s]
 unfold X4y
 rw[if_neg (by simp)]
 unfold X28
 rw[Xfo,X4x]
 unfold X6y
 rw[if_neg (by simp),Option.bind_some,if_neg (by decide),if_neg (by omega),X6a]
 unfold X7v
 rw[if_neg (by simp),Option.bind_some,if_neg (by decide)]
 unfold X36
 rw[if_neg (by simp),Option.bind_some,if_neg (by decide),if_neg (by simp),show lidx [num] (w64 (([num].length:Int)-1))=some num from rfl,Option.bind_some,X3t (by omega) (by omega) (by simp),Option.bind_some,X2 (by simp),Option.bind_some,X2 (by simp),Option.bind_some,X3t (by omega) (by simp) (by simp),Option.bind_some,X2 (by simp),Option.bind_some]
 rfl
theorem Xfr{p:Int}(hf:Fp p){w:Nat}(hw:1≤w∧w≤64){R:List (List Int)}(hR:Rw p w R)(hn:1≤R.length∧R.length≤64){num:Int}(hnum:1≤num∧num<2147483647):X5n [(num,p,(w:Int),R)]=some ((num,p,(w:Int),R),0):=by
 unfold X5n Xa0
 rw[Xfo,X3r]
 unfold X4u
 rw[if_pos (by simp),show lidx [(num,p,(w:Int),R)] (0:Int)=some (num,p,(w:Int),R) from rfl,Option.bind_some,tcheck hf hw hR (by omega) hnum,Option.bind_some,if_neg (by decide),Option.bind_some,Option.bind_some,if_neg (by simp),Option.bind_some,Option.bind_some,if_neg (by simp),if_neg (by omega),Option.bind_some,Option.bind_some,if_neg (by decide),w64_id (x:=0+1) (by omega) (by omega)]
 rw[show big-1=(big-2)+1 from by simp only [big],X3r]
 unfold X4u
 rw[if_neg (by simp)]
 unfold X26
 rw[Option.bind_some,if_neg (by simp)]
 rfl
end Go.Proofs.YtnfalgmfmiolbaaGreat.Hh
end

section
namespace Go.Proofs.YtnfalgmfmiolbaaGreat.Hh
set_option linter.unusedVariables false
set_option maxRecDepth 100000
section
variable{p:Int}(hf:Fp p){y:Sch}{s k:Nat}{c:Nat→Nat}(h:SOK p y s k c){n:Nat}(hn:1≤n∧n≤64){rows:List Int}(hr:∀x∈rows, -1≤x∧x<(n:Int))(hm:1≤rows.length∧rows.length≤16)
include hf h hn hr hm
theorem Xii{w:Nat}(hw:1≤w∧w≤64){num root:Int}{T:List Int}(hT:El p T)(hl:T.length≤16384)(hc:rows.length*c n≤T.length):
  ∃(r:Rdr)(t:Tp)(Q:List (List (List Int))),X8u 0 y (num,p,(n:Int),(w:Int),root) rows (T,0)=some (r,t,0)∧RdrOK y (num,p,(n:Int),(w:Int),root) s rows.length Q r∧Q.length=rows.length∧∀q∈Q,QK p s (unit y n) q:=by
 have hs:=h.srv
 obtain⟨Q,t',q1,q2,q3⟩:=queries24s hf h hn hr hm hT hl hc
 have key:∀(m f i:Nat)(A:List (List Ans))(B:List (List Int)),i+m=rows.length→m<f→A.length=i→B.length=i→(∀l∈A,l.length=s)→(∀l∈B,l.length=s)→
   ∃(A':List (List Ans))(B':List (List Int)),X2j (X2i Q t'.1 ([]++rows)) rows 0 y.1 y.2.1 y.2.2.1 y.2.2.2 num p (n:Int) (w:Int) root false t'.2 p 0 num (n:Int) (w:Int) root y.1 y.2.1 y.2.2.1 y.2.2.2 f (i:Int) A B=some (((0,y,(num,p,(n:Int),(w:Int),root),rows,Q,A',B',false):Rdr),t',0)∧A'.length=rows.length∧B'.length=rows.length∧(∀l∈A',l.length=s)∧(∀l∈B',l.length=s):=by
  intro m
  induction m with
  |zero=>
   intro f i A B hi hf2 hA hB h1 h2
   obtain⟨f,rfl⟩:∃g,f=g+1:=⟨f-1,by omega⟩
   rw[X2j]
   unfold X56
   rw[if_neg (by omega)]
   exact⟨A,B,rfl,by omega,by omega,h1,h2⟩
  |succ m ih=>
   intro f i A B hi hf2 hA hB h1 h2
   obtain⟨f,rfl⟩:∃g,f=g+1:=⟨f-1,by omega⟩
   rw[X2j]
   unfold X56
   rw[if_pos (by omega),hs.1,Xca _ (by omega),Option.bind_some,X2 (by simp;omega),Option.bind_some,Xca _ (by omega),Option.bind_some,X2 (by simp;omega),Option.bind_some,w64_id (by omega) (by omega),show(i:Int)+1=((i+1:Nat):Int) by omega, ← hs.1]
   refine ih f (i+1) _ _ (by omega) (by omega) (by simp [hA]) (by simp [hB]) (fun l hl=>?_) (fun l hl=>?_)
   ·rcases List.mem_append.1 hl with hl |hl
    ·exact h1 l hl
    ·rw[List.mem_singleton.1 hl];simp
   ·rcases List.mem_append.1 hl with hl |hl
    ·exact h2 l hl
    ·rw[List.mem_singleton.1 hl];simp
 obtain⟨A,B,k1,k2,k3,k4,k5⟩:=key rows.length big 0 [] [] (by omega) (by simp only [big];omega) rfl rfl (fun l hl=>by cases hl) (fun l hl=>by cases hl)
 refine⟨(0,y,(num,p,(n:Int),(w:Int),root),rows,Q,A,B,false),t',Q,?_,⟨rfl,rfl,rfl,rfl,k2,k4,k3,k5⟩,q2,q3⟩
 ·unfold X8u
  dsimp only
  rw[if_neg (by omega),h.valid hf,Option.bind_some,if_neg (by decide),Xc1 hn hr hm,Option.bind_some,if_neg (by simp;omega),q1,Option.bind_some,if_neg (by simp),X2 (by simp;omega),Option.bind_some]
  unfold X72
  exact k1
end
end Go.Proofs.YtnfalgmfmiolbaaGreat.Hh
end

section
namespace Go.Proofs.YtnfalgmfmiolbaaGreat.Hh
set_option linter.unusedVariables false
set_option maxRecDepth 100000
section
variable{p:Int}{u s N:Nat}(hs:s≤10)(hN:N≤16)(hu:u≤1000){Q:List (List (List Int))}(hQN:Q.length=N)(hQ:∀q∈Q,QK p s u q){num:Int}
include hs hN hu hQN hQ
theorem Xj5{i:Nat}(hi:i<N)(rec:List Note→Int→Int→Int→Int→Int→Int→Int→Int→Int→Int→Int→Bool→Option (List Note))(y1 y2 y3 y4 h2 h3 h4 h5:Int)(b:Bool):∀(m f j:Nat)(acc:List Note),j+m=s→m<f→acc.length+m≤1000→(∀x∈acc,QryN p u num s N Q x)→
  ∃acc',X2k rec (i:Int) 0 y1 y2 y3 y4 num h2 h3 h4 h5 Q b f acc (j:Int)=rec acc' ((i:Int)+1) 0 y1 y2 y3 y4 num h2 h3 h4 h5 b∧acc'.length=acc.length+m∧∀x∈acc',QryN p u num s N Q x:=by
 have hqi:=hQ _ (List.getElem_mem (by omega:i<Q.length))
 intro m
 induction m with
 |zero=>
  intro f j acc hj hf ha hP
  obtain⟨f,rfl⟩:∃g,f=g+1:=⟨f-1,by omega⟩
  rw[X2k]
  unfold X57
  rw[lget (by omega),Option.bind_some,if_neg (by rw[hqi.1];omega),w64_id (by omega) (by omega)]
  exact⟨acc,rfl,by omega,hP⟩
 |succ m ih=>
  intro f j acc hj hf ha hP
  obtain⟨f,rfl⟩:∃g,f=g+1:=⟨f-1,by omega⟩
  have hjl:j<(Q[i]'(by omega)).length:=by rw[hqi.1];omega
  have hq:=hqi.2 _ (List.getElem_mem hjl)
  rw[X2k]
  unfold X57
  rw[lget (by omega),Option.bind_some,if_pos (by omega),Option.bind_some,lget hjl,Option.bind_some,X2 (by simp;omega),Option.bind_some,X2 (by simp;omega),Option.bind_some,w64_id (by omega) (by omega),show(j:Int)+1=((j+1:Nat):Int) by omega,List.nil_append]
  obtain⟨acc',k1,k2,k3⟩:=ih f (j+1) (acc++[(1,0,(i:Int),((j+1:Nat):Int),num,(Q[i]'(by omega))[j],[],0)]) (by omega) (by omega) (by simp;omega) (fun x hx=>by
   rcases List.mem_append.1 hx with hx |hx
   ·exact hP x hx
   ·refine⟨i,j,(Q[i]'(by omega))[j],hi,by omega,hq.2,hq.1,⟨Q[i]'(by omega),List.getElem?_eq_getElem _,List.getElem?_eq_getElem _⟩,?_⟩
    rw[List.mem_singleton.1 hx]
    unfold qnote
    rw[show(j:Int)+1=((j+1:Nat):Int) by omega])
  exact⟨acc',k1,by rw[k2];simp;omega,k3⟩
theorem Xj6(y1 y2 y3 y4 h2 h3 h4 h5:Int)(b:Bool):∀(m f i:Nat)(acc:List Note),i+m=N→m<f→acc.length+m*s≤1000→(∀x∈acc,QryN p u num s N Q x)→
  ∃acc',Xo Q f acc (i:Int) 0 y1 y2 y3 y4 num h2 h3 h4 h5 b=some acc'∧acc'.length=acc.length+m*s∧∀x∈acc',QryN p u num s N Q x:=by
 intro m
 induction m with
 |zero=>
  intro f i acc hi hf ha hP
  obtain⟨f,rfl⟩:∃g,f=g+1:=⟨f-1,by omega⟩
  rw[Xo]
  unfold X58
  rw[if_neg (by omega)]
  exact⟨acc,rfl,by simp,hP⟩
 |succ m ih=>
  intro f i acc hi hf ha hP
  obtain⟨f,rfl⟩:∃g,f=g+1:=⟨f-1,by omega⟩
  have e:(m+1)*s=m*s+s:=by rw[Nat.add_mul,Nat.one_mul]
  obtain⟨A,k1,k2,k3⟩:=Xj5 hs hN hu hQN hQ (i:=i) (by omega) (Xo Q f) y1 y2 y3 y4 h2 h3 h4 h5 b s big 0 acc (by omega) (by simp only [big];omega) (by omega) hP
  obtain⟨A',j1,j2,j3⟩:=ih f (i+1) A (by omega) (by omega) (by omega) k3
  rw[Xo]
  unfold X58
  rw[if_pos (by omega)]
  rw[show((0:Nat):Int)=0 from rfl] at k1
  rw[k1,show(i:Int)+1=((i+1:Nat):Int) by omega,j1]
  exact⟨A',rfl,by omega,j3⟩
end
end Go.Proofs.YtnfalgmfmiolbaaGreat.Hh
end

section
namespace Go.Proofs.YtnfalgmfmiolbaaGreat.Hh
set_option linter.unusedVariables false
set_option maxRecDepth 100000
theorem Xij{d:List Int×Int}(hd:DiceOK d):∃(p:Int)(y:Sch)(s k:Nat)(c:Nat→Nat)(num:Int)(w:Nat)(R:List (List Int))(root:Int)(li:List Int)(seed:Int)(e:List Int×Int),
  X49 d 1=some ((y,ppl,[(num,p,(w:Int),R)],svs s y (num,p,(R.length:Int),(w:Int),root) (hld y (num,p,(w:Int),R)) noj,[],[],(seed,0,[]),([],[num]),li,[]),e)∧
  Fp p∧X4k p=some (p,true)∧SOK p y s k c∧1≤num∧num≤3∧1≤w∧w≤3∧1≤R.length∧R.length≤5∧Rw p w R∧X2r (num,p,(w:Int),R)=some ((num,p,(R.length:Int),(w:Int),root),0)∧li.length=s∧El p li∧1≤seed∧seed≤250∧DiceOK e:=by
 obtain⟨y,e1,_,_,_,a1,_,a3⟩:=Xfn (p:=7) (by omega) hd
 obtain⟨p,e2,b1,hf,hp7,hres,b4⟩:=Xj2 a3
 obtain⟨y',e1',s,k,c,a1',hy,_⟩:=Xfn (p:=p) hp7 hd
 rw[a1] at a1'
 obtain⟨rfl,rfl⟩:=Prod.mk.inj (Option.some.inj a1')
 have hrg:=hf.rng
 obtain⟨num,w,R,e3,t1,n1,n2,w1,w2,r1,r2,hR,t4⟩:=Xib hrg b4
 obtain⟨root,hh⟩:=Xlv hf (num:=num) (by omega) (w:=w) (by omega) hR (by omega)
 have hs:=hy.srv
 unfold X49
 rw[a1,Option.bind_some,b1,Option.bind_some,t1,Option.bind_some]
 dsimp only
 rw[hs.1]
 obtain⟨li,e4,l1,l2,l3,l4⟩:=Xid hrg hs.2.2 (Xj R) num (w:Int) y.1 y.2.2.1 y.2.2.2 s big 0 [] 1 e3 (by omega) (by simp only [big];omega) rfl El.nil (by omega) (by omega) t4
 rw[show((0:Nat):Int)=0 from rfl] at l1
 rw[l1]
 unfold Xj
 obtain⟨v,e5,k1,k2,k3,k4⟩:=dpick (d:=(e4.1,e4.2)) l4 (n:=250) (by omega)
 have hnew:=Xnw hf hy (w:=w) (by omega) hR (by omega) (num:=num) (by omega) hh ⟨root,rfl⟩ l2 l3 (seed:=1+v) (by omega)
 rw[Xnq,Option.bind_some,k1,Option.bind_some,w64_id (x:=1+v) (by omega) (by omega), ← hs.1,show((y.1,y.2.1,y.2.2.1,y.2.2.2):Sch)=y from rfl,hnew,Option.bind_some]
 unfold X3w
 exact⟨p,y,s,k,c,num,w,R,root,li,1+v,e5,rfl,hf,hres,hy,n1,n2,w1,w2,r1,r2,hR,hh,l2,l3,by omega,by omega,k4⟩
end Go.Proofs.YtnfalgmfmiolbaaGreat.Hh
end

section
namespace Go.Proofs.YtnfalgmfmiolbaaGreat.Hh
set_option linter.unusedVariables false
set_option maxRecDepth 100000
section
variable{p:Int}(hf:Fp p){y:Sch}{s k:Nat}{c:Nat→Nat}(h:SOK p y s k c){w:Nat}(hw:1≤w∧w≤64){R:List (List Int)}(hR:Rw p w R)(hn:1≤R.length∧R.length≤5){num:Int}(hnum:1≤num∧num≤3){root:Int}(hh:X2r (num,p,(w:Int),R)=some ((num,p,(R.length:Int),(w:Int),root),0))
 {rows:List Int} (hr:∀x∈rows, -1≤x∧x<(R.length:Int)) (hm:1≤rows.length∧rows.length≤3) {seed:Int} (hsd:1≤seed∧seed≤250) {li:List Int} {S:List Srv} (hS:S.length≤100) (hc:c R.length≤640)
include hf h hw hR hn hnum hh hr hm hsd hS hc
theorem Xm0(z:Int×Int×Int×List (Int×List Int)):∃(r:Rdr)(Q:List (List (List Int)))(A:List Note),
  X21 (y,ppl,[(num,p,(w:Int),R)],S,[],[],(seed,0,[]),([],[num]),li,[]) (1,0,rows,z)=some (wld ⟨y,[(num,p,(w:Int),R)],(seed,((rows.length*c R.length:Nat):Int),[(0,num,p,0,((rows.length*c R.length:Nat):Int))]),([(0,num)],[num]),li⟩ S A r,0)∧
  RdrOK y (num,p,(R.length:Int),(w:Int),root) s rows.length Q r∧Q.length=rows.length∧A.length=rows.length*s∧∀x∈A,QryN p (unit y R.length) num s rows.length Q x:=by
 have hs:=h.srv
 have hN:rows.length*c R.length≤1920:=by
  have:=Nat.mul_le_mul hm.2 hc;omega
 obtain⟨T,t1,t2,t3⟩:=Xh0 hf.rng (M:=rows.length*c R.length) (by omega) hsd hnum
 obtain⟨r,t,Q,q1,q2,q3,q4⟩:=Xii hf h (n:=R.length) (by omega) hr (by omega) hw (num:=num) (root:=root) t3 (by omega) (by omega)
 have hul:=Xhz (p:=p) (y:=y) (n:=R.length) h (by omega)
 have hms:rows.length*s≤30:=by
  have:=Nat.mul_le_mul hm.2 hs.2.2;omega
 obtain⟨A,a1,a2,a3⟩:=Xj6 (p:=p) (u:=unit y R.length) (s:=s) (N:=rows.length) hs.2.2 (by omega) hul q3 q4 (num:=num) r.2.1.1 r.2.1.2.1 r.2.1.2.2.1 r.2.1.2.2.2 p (R.length:Int) (w:Int) root r.2.2.2.2.2.2.2 rows.length big 0 [] (by omega) (by simp only [big];omega) (by simp;omega) (fun x hx=>by cases hx)
 refine⟨r,Q,A,?_,q2,q3,by simpa using a2,a3⟩
 have hnotes:X8v r=some A:=by
  unfold X8v
  rw[q2.qs,q2.id,q2.hed]
  exact a1
 unfold X21 X84
 dsimp only
 rw[X2 (by simp;omega),Option.bind_some,X2 (by simp),Option.bind_some,X2 (by simp),Option.bind_some,Option.bind_some,if_pos rfl]
 unfold Xa4
 dsimp only
 simp only [List.nil_append,List.append_nil]
 rw[if_neg (by simp),Xfr hf hw hR (by omega) (by omega),Option.bind_some,hh,Option.bind_some]
 dsimp only
 rw[Xc1 (by omega) hr (by omega),Option.bind_some,if_neg (by decide),show((([]:List Rdr).length:Nat):Int)=0 from rfl,Xlz hnum,Option.bind_some,if_neg (by simp),limits24 hf h (n:=R.length) (m:=rows.length) (by omega) (by omega),Option.bind_some,if_neg (by simp)]
 dsimp only
 rw[List.length_replicate,t1,Option.bind_some,if_neg (by simp)]
 dsimp only
 rw[q1,Option.bind_some,if_neg (by simp),hnotes,Option.bind_some]
 unfold X86
 have hA:A.length≤30:=by rw[a2];simpa using hms
 rw[if_neg (by rw[w64_id (by simp<;>omega) (by simp<;>omega)];simp<;>omega),X2 (by simp),Option.bind_some,X2 (by simp;omega),Option.bind_some,Option.bind_some]
 unfold X73
 rw[if_neg (by simp),X2 (by simp),Option.bind_some,Option.bind_some]
 unfold X8w
 rw[if_neg (by simp)]
 rfl
end
end Go.Proofs.YtnfalgmfmiolbaaGreat.Hh
end

section
namespace Go.Proofs.YtnfalgmfmiolbaaGreat.Hh
set_option linter.unusedVariables false
set_option maxRecDepth 100000
theorem sane43:Xas=some true:=by kernel_rfl
theorem Xg8{t:List Int}(ht:∀x∈t,0≤x∧x≤255):X3b t=some true:=by
 unfold X3b
 obtain⟨d,d1,d2⟩:=dnew ht
 obtain⟨p,y,s,k,c,num,w,R,root,li,seed,e,x1,hf,hres,hy,n1,n2,w1,w2,r1,r2,hR,hh,l2,l3,s1,s2,de⟩:=Xij d2
 obtain⟨rows,e2,g1,g2,g3,g4⟩:=Xj3 (n:=R.length) (by omega) de
 have hs:=hy.srv
 have hc:=(hy.limits hf (n:=R.length) (by omega)).2
 obtain⟨r,Q,A,a1,a2,a3,a4,a5⟩:=Xm0 hf hy (w:=w) (by omega) hR (by omega) (num:=num) (by omega) hh g4 (by omega) (by omega) (li:=li) (S:=svs s y (num,p,(R.length:Int),(w:Int),root) (hld y (num,p,(w:Int),R)) noj) (by rw[X5g];omega) hc (seed:=seed) (0,0,0,[])
 have hdr:=SOK.draws hf hres hy (n:=R.length) (by omega) (m:=rows.length) (by omega)
 have hAl:A.length≤30:=by
  rw[a4];exact Nat.mul_le_mul g3 hs.2.2
 have hAw:A.length*(w+1)≤30*4:=Nat.mul_le_mul hAl (by omega)
 obtain⟨r',z1⟩:=Xi9 (X:=⟨y,[(num,p,(w:Int),R)],(seed,((rows.length*c R.length:Nat):Int),[(0,num,p,0,((rows.length*c R.length:Nat):Int))]),([(0,num)],[num]),li⟩) (hd:=(num,p,(R.length:Int),(w:Int),root)) (s:=s) (N:=rows.length) (H:=hld y (num,p,(w:Int),R)) (by omega) l2 hf rfl (w:=w) (by omega) rfl (u:=unit y R.length) (Xhz (p:=p) hy (by omega)) (fun j hj=>(Xju hf hy (by omega) hR (by omega) (by omega) hj).2) (by omega) hs.1 a3 a2 a5 (by omega) (by omega)
 rw[sane43,Option.bind_some,if_neg (by decide),d1,Option.bind_some,x1,Option.bind_some]
 dsimp only
 rw[Xfr hf (by omega) hR (by omega) (by omega),Option.bind_some]
 dsimp only
 rw[g1,Option.bind_some,a1,Option.bind_some]
 unfold wld at z1 ⊢
 dsimp only at z1 ⊢
 rw[hdr,Option.bind_some,z1,Option.bind_some]
 dsimp only
 have hm:rows.length*s≤30:=Nat.mul_le_mul g3 hs.2.2
 rw[if_neg (by simp)]
 unfold X40 X77 X40 X76 X75
 rw[hs.1,show(rows.length:Int)*(s:Int)=((rows.length*s:Nat):Int) by simp,w64_id (x:=((rows.length*s:Nat):Int)) (by omega) (by omega),Option.bind_some,w64_id (x:=2*((rows.length*s:Nat):Int)) (by omega) (by omega),Option.bind_some,Option.bind_some,a4]
 rw[w64_id (x:=((rows.length*s:Nat):Int)*2) (by omega) (by omega),decide_eq_false (by simp;omega),if_neg (by decide)]
 generalize hq:rows.length*s=q at*
 have e9:q*(w+1)=q*w+q:=by rw[Nat.mul_add,Nat.mul_one]
 rw[a4,e9] at hAw
 rw[Option.bind_some,Option.bind_some,show(q:Int)*(w:Int)=((q*w:Nat):Int) by simp,w64_id (x:=((q*w:Nat):Int)) (by omega) (by omega),Option.bind_some,w64_id (by omega) (by omega)]
 simp
 rw[Int.mul_add,Int.mul_one];omega
end Go.Proofs.YtnfalgmfmiolbaaGreat.Hh
end
