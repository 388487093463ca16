/- What the proof needs, gathered by wip/gen/shake.py. -/
import Derived.Calls
import Derived.Deep.Quiet
import Derived.Below
import Derived.Laws.AppendOwn
import Derived.WalkKit
import Derived.Laws.OwnMore
import Derived.Deep.Slices
import Derived.ChangeOld
import Derived.ArgAppend
import Derived.RangeFuncIn
import Derived.RangeFuncRecord
import Derived.RangeFuncLeaves
import Derived.Laws.MakeOwn
import Derived.IntWalk
import Derived.Laws.IdiomStrings
import Derived.Laws.Cover3
import Derived.Laws.CopyOwn
import Derived.MapKept
import Derived.RangeFuncNested
import Derived.Test.YtnfalgmfmiolbaaGreatRows
import Derived.ProofKit
import Derived.OpenShut
import Derived.ShutString
set_option linter.unusedVariables false
set_option linter.unusedSimpArgs false
set_option linter.unusedSectionVars false
section
namespace Go.Proofs.YtnfalgmfmiolbaaGreat
structure Cx where
 fn:FuncId
 ro:Option Nat
def Cx.fr(c:Cx)(a:Act)(items:List Item):Frame:=
 {fn:=c.fn,tmps:=a.tmps,todo:=items,defers:=a.defers,mode:= .run,kind:= .normal,roundOf:=c.ro}
def Done(P:Program)(c:Cx)(m:Machine)(cs:List Frame)(v:Value)(w':World):Prop:=
 match c.ro with
 |none=>∃fr,Steps P m (lone fr cs w')∧fr.fn=c.fn∧fr.leaving P w' (.returned v)
 |some _=>∃caller cs',cs=caller::cs'∧Steps P m (lone (caller.finish v) cs' w')
def Run(P:Program)(c:Cx)(R:Value→World→Prop)(items:List Item)(a:Act)(w:World):Prop:=
 ∀cs,(c.ro.isSome→cs≠[])→∃v w',R v w'∧Done P c (lone (c.fr a items) cs w) cs v w'
section
variable{P:Program}{c:Cx}{R:Value→World→Prop}{a a':Act}{w w':World}{k:List Item}
theorem Done.of_steps{m m₁:Machine}{cs:List Frame}{v:Value}(h:Steps P m m₁)(h':Done P c m₁ cs v w'):Done P c m cs v w':=by
 unfold Done at*
 cases hr:c.ro with
 |none=>simp only [hr] at h' ⊢;obtain⟨fr,hs,r⟩:=h';exact⟨fr,h.trans hs,r⟩
 |some l=>simp only [hr] at h' ⊢;obtain⟨cl,cs',e,hs⟩:=h';exact⟨cl,cs',e,h.trans hs⟩
theorem Run.steps{items items':List Item}(h:∀cs,Steps P (lone (c.fr a items) cs w) (lone (c.fr a' items') cs w'))
  (h':Run P c R items' a' w'):Run P c R items a w:=fun cs hcs=>
 let ⟨v,w'',r,d⟩:=h' cs hcs
 ⟨v,w'',r,d.of_steps (h cs)⟩
theorem Run.step{items items':List Item}(h:∀cs,step P (lone (c.fr a items) cs w)= .next (lone (c.fr a' items') cs w'))
  (h':Run P c R items' a' w'):Run P c R items a w:=h'.steps fun cs=> .one (h cs)
theorem Xh1(x:Operand)(items:List Item):(c.fr a items).eval x=a.eval x:=by cases x<;>rfl
theorem Xik(items:List Item):(c.fr a items).eval=a.eval:=funext fun x=>Xh1 x items
theorem Run.skip(h:Run P c R k a w):Run P c R (.code .skip::k) a w:=h.step fun cs=>step_lone_go (by simp [stepG,stepG.exec,Cx.fr])
theorem Run.inBlock{id:Nat}(h:Run P c R k a w):Run P c R (.inBlock id::k) a w:=h.step fun cs=>step_lone_go (by simp [stepG,stepG.exec,Cx.fr])
theorem Run.seq{x y:Code}(h:Run P c R (.code x:: .code y::k) a w):Run P c R (.code (.seq x y)::k) a w:=h.step fun cs=>step_lone_go (by simp [stepG,stepG.exec,Cx.fr])
theorem Run.block{id:Nat}{x:Code}(h:Run P c R (.code x:: .inBlock id::k) a w):Run P c R (.code (.block id x)::k) a w:=h.step fun cs=>step_lone_go (by simp [stepG,stepG.exec,Cx.fr])
theorem Run.loop{x:Code}(h:Run P c R (.code x:: .inLoop x::k) a w):Run P c R (.code (.loop x)::k) a w:=h.step fun cs=>step_lone_go (by simp [stepG,stepG.exec,Cx.fr])
theorem Run.inLoop{x:Code}(h:Run P c R (.code x:: .inLoop x::k) a w):Run P c R (.inLoop x::k) a w:=h.step fun cs=>step_lone_go (by simp [stepG,stepG.exec,Cx.fr])
theorem Run.exit{id:Nat}{k':List Item}(hk:exitTo id k=some k')(h:Run P c R k' a w):Run P c R (.code (.exit id)::k) a w:=h.step fun cs=>step_lone_go (by simp [stepG,stepG.exec,Cx.fr,hk])
theorem Run.cond{x y:Code}{o:Operand}{t:Bool}(hc:a.eval o= .bool t)(h:Run P c R (.code (if t then x else y)::k) a w):Run P c R (.code (.cond o x y)::k) a w:=
 h.step fun cs=>step_lone_go (by
  have:=Xh1 (c:=c) (a:=a) o (.code (.cond o x y)::k)
  simp only [Cx.fr] at this
  simp [stepG,stepG.exec,Cx.fr,this,hc])
theorem Run.region{id:Nat}{ops:Array Oper}(h:Run P c R (.inRegion ops (List.range ops.size)::k) a w):Run P c R (.code (.region id ops false)::k) a w:=h.step fun cs=>step_lone_go (by simp [stepG,stepG.exec,Cx.fr])
theorem Run.region_end{ops:Array Oper}(h:Run P c R k a w):Run P c R (.inRegion ops []::k) a w:=h.step fun cs=>step_lone_go (by simp [stepG,stepG.exec,Cx.fr])
theorem Run.region_draw{id:Nat}{ops:Array Oper}(h:∀t,Run P c R (.inRegion ops (Region.schedule (P.follows .mixedOrders) ops t)::k) a {w with drawn:=w.drawn+1}):Run P c R (.code (.region id ops true)::k) a w:=
 fun cs hcs=>by
  obtain⟨v,w'',r,d⟩:=h (w.tape w.drawn (.order c.fn id)) cs hcs
  exact⟨v,w'',r,d.of_steps (.one (step_lone_go (by simp [stepG,stepG.exec,Cx.fr,choose,Sem.run,Question.forced,Question.cut])))⟩
theorem Run.leave{fn:Func}{v:Value}{items:List Item}(hi:items=[]∨∃k,items= .code .ret::k)(hro:c.ro=none)(hf:P.funcs[c.fn]?=some fn)(hd:a.defers=[])
  (hr:(results fn a.tmps).run P w= .ok v w) (hR:R v w):Run P c R items a w:=fun cs _=>by
 refine⟨v,w,hR,?_⟩
 unfold Done
 simp only [hro]
 refine⟨{c.fr a items with mode:= .returning}, .one (step_lone_go ?_),rfl,rfl,hd,rfl,fn,hf,hr⟩
 rcases hi with rfl | ⟨k,rfl⟩<;>simp [stepG,stepG.exec,Cx.fr,hro]
theorem Xcg(ops:Array Oper)(i:Nat)(rest:List Nat)(v:Value):
  (c.fr a (.inRegion ops (i::rest)::k)).finish v=c.fr (a.put ((ops[i]?).bind (·.dst)) v) (.inRegion ops rest::k):=by
 cases h:(ops[i]?).bind (·.dst)<;>simp [Frame.finish,Cx.fr,Act.put,h]
theorem Xdk{ops:Array Oper}{i:Nat}{rest:List Nat}{cs:List Frame}(h:((ops[i]?).map (Region.wanted · (yielded ops a.tmps))).getD false=false):
  step P (lone (c.fr a (.inRegion ops (i::rest)::k)) cs w)= .next (lone (c.fr (a.put ((ops[i]?).bind (·.dst)) undef) (.inRegion ops rest::k)) cs w):=by
 rw[← Xcg]
 exact step_lone_go (by
  have h':=h
  simp only [Cx.fr] at*
  simp [stepG,stepG.exec,h'])
theorem Xm1{ops:Array Oper}{i:Nat}{rest:List Nat}{cs:List Frame}{o:Oper}(ho:ops[i]?=some o)(hw:Region.wanted o (yielded ops a.tmps)=true)(hnd:∀c,o.op≠ .defer c):
  stepG P true {frame:=c.fr a (.inRegion ops (i::rest)::k),callers:=cs,status:= .running,dying:=none} w=
   stepG.apply P true (c.fr a (.inRegion ops (i::rest)::k)) cs none (execOp a.eval o) w:=by
 have he:=Xik (c:=c) (a:=a) (.inRegion ops (i::rest)::k)
 simp only [Cx.fr] at he
 cases hr:c.ro with
 |none=>simp [stepG,stepG.exec,stepG.oper,Frame.oper?,Cx.fr,ho,hw,hr];rw[← he];simp [hr]
 |some l=>
  cases hop:o.op<;>first
   | (exfalso;exact hnd _ hop)
   | (simp [stepG,stepG.exec,stepG.oper,Frame.oper?,Cx.fr,ho,hw,hr,hop];rw[← he];simp [hr])
end
end Go.Proofs.YtnfalgmfmiolbaaGreat
end

section
namespace Go.Proofs.YtnfalgmfmiolbaaGreat
def Qf:Exit→Act→World→Prop:=fun _ _ _=>False
def CallsV(P:Program)(f:FuncId)(args:Array Value)(w:World)(R:Value→World→Prop):Prop:=
 Calls P f args w fun e w'=>∃v,e= .returned v∧R v w'
def RoundV(P:Program)(l:Nat)(f:FuncId)(tmps:Array Value)(assign body:Code)(w:World)(R:Value→World→Prop):Prop:=
 ∀(cl:Frame)(cs:List Frame),∃v w',R v w'∧Steps P (lone (Frame.round l f tmps assign body .normal) (cl::cs) w) (lone (cl.finish v) cs w')
theorem CallsV.mono{P:Program}{f:FuncId}{args:Array Value}{w:World}{R R':Value→World→Prop}(h:CallsV P f args w R)(hr:∀v w',R v w'→R' v w'):CallsV P f args w R':=
 Calls.mono h fun _ _ ⟨v,e,r⟩=>⟨v,e,hr _ _ r⟩
section
variable{P:Program}{c:Cx}{R:Value→World→Prop}{a a':Act}{w w':World}{k:List Item}
theorem Run.op{ops:Array Oper}{i:Nat}{rest:List Nat}{o:Oper}(ho:ops[i]?=some o)(hw:Region.wanted o (yielded ops a.tmps)=true)(hnd:∀c,o.op≠ .defer c)
  (h:o.wp P a w (fun a' w'=>Run P c R (.inRegion ops rest::k) a' w') Qf):Run P c R (.inRegion ops (i::rest)::k) a w:=by
 intro cs hcs
 have hg:=Xm1 (P:=P) (c:=c) (a:=a) (k:=k) (cs:=cs) (w:=w) (rest:=rest) ho hw hnd
 have hfin:∀(a:Act) v,(c.fr a (.inRegion ops (i::rest)::k)).finish v=c.fr (a.put o.dst v) (.inRegion ops rest::k):=fun a v=>by
  rw[Xcg];simp [ho]
 unfold Oper.wp at h
 cases hr:(execOp a.eval o).run P w with
 |halt x w'=>rw[hr] at h;cases x<;>simp only [Oper.upon,Qf] at h
 |ok n w'=>
  rw[hr] at h
  cases n<;>simp only [Oper.upon] at h
  case value v=>
   obtain⟨v',w'',r,d⟩:=h cs hcs
   refine⟨v',w'',r,d.of_steps (.one (step_lone_go ?_))⟩
   rw[hg, ← hfin a v];simp [stepG.apply,hr]
  case skip=>
   obtain⟨v',w'',r,d⟩:=h cs hcs
   refine⟨v',w'',r,d.of_steps (.one (step_lone_go ?_))⟩
   rw[hg, ← hfin a undef];simp [stepG.apply,hr]
  case defer d=>
   obtain⟨v',w'',r,dn⟩:=h cs hcs
   refine⟨v',w'',r,dn.of_steps (.one (step_lone_go ?_))⟩
   rw[hg, ← hfin {a with defers:=d::a.defers} undef];simp [stepG.apply,hr]
   cases hx:c.fr a (.inRegion ops (i::rest)::k) with
   |mk fn tmps todo defers mode kind ro=>simp [Cx.fr] at hx ⊢;obtain⟨h1,h2,h3,h4,h5,h6,h7⟩:=hx;subst h1 h2 h3 h4 h5 h6 h7;rfl
  case enter f args=>
   obtain⟨e,w'',fr,hR,hcomes,hfn,hleave⟩:=h (c.fr a (.inRegion ops (i::rest)::k)::cs)
   cases e with
   |panicked ch=>exact hR.elim
   |outgrown=>obtain⟨_,_,hq⟩:=hR;exact hq.elim
   |returned v=>
    obtain⟨v',w3,r,d⟩:=hR cs hcs
    refine⟨v',w3,r,d.of_steps (.head (step_lone_go ?_) (Steps.trans hcomes (.one ?_)))⟩
    ·rw[hg];simp [stepG.apply,hr,Cx.fr]
    ·rw[← hfin a v];exact step_leave_returned hleave
  case row row args=>
   obtain⟨v,w'',hR,hs⟩:=h (c.fr a (.inRegion ops (i::rest)::k)) cs
   obtain⟨v',w3,r,d⟩:=hR cs hcs
   refine⟨v',w3,r,d.of_steps (.head (m₁:=lone (Frame.ofRow P row args .normal) (c.fr a (.inRegion ops (i::rest)::k)::cs) w') (step_lone_go ?_) ?_)⟩
   ·rw[hg];simp [stepG.apply,hr,Cx.fr]
   ·rw[← hfin a v];exact hs
theorem Run.op_skip{ops:Array Oper}{i:Nat}{rest:List Nat}{o:Oper}(ho:ops[i]?=some o)(hw:Region.wanted o (yielded ops a.tmps)=false)
  (h:Run P c R (.inRegion ops rest::k) (a.put o.dst undef) w):Run P c R (.inRegion ops (i::rest)::k) a w:=
 h.step fun cs=>by
  have:=Xdk (P:=P) (c:=c) (a:=a) (k:=k) (w:=w) (ops:=ops) (i:=i) (rest:=rest) (cs:=cs) (by simp [ho,hw])
  rw[this,ho];rfl
theorem Run.op_round{ops:Array Oper}{i:Nat}{rest:List Nat}{o:Oper}(ho:ops[i]?=some o)(hw:Region.wanted o (yielded ops a.tmps)=true)(hnd:∀c,o.op≠ .defer c)
  {l:Nat} {f:FuncId} {tmps:Array Value} {assign body:Code} (hr:(execOp a.eval o).run P w= .ok (.round l f tmps assign body) w')
  (h:RoundV P l f tmps assign body w' fun v w''=>Run P c R (.inRegion ops rest::k) (a.put o.dst v) w''):Run P c R (.inRegion ops (i::rest)::k) a w:=by
 intro cs hcs
 have hg:=Xm1 (P:=P) (c:=c) (a:=a) (k:=k) (cs:=cs) (w:=w) (rest:=rest) ho hw hnd
 obtain⟨v,w'',hR,hs⟩:=h (c.fr a (.inRegion ops (i::rest)::k)) cs
 obtain⟨v',w3,r,d⟩:=hR cs hcs
 refine⟨v',w3,r,d.of_steps (.head (m₁:=lone (Frame.round l f tmps assign body .normal) (c.fr a (.inRegion ops (i::rest)::k)::cs) w') (step_lone_go ?_) ?_)⟩
 ·rw[hg];simp [stepG.apply,hr,Cx.fr]
 ·have:(c.fr a (.inRegion ops (i::rest)::k)).finish v=c.fr (a.put o.dst v) (.inRegion ops rest::k):=by rw[Xcg];simp [ho]
  rw[← this];exact hs
theorem Run.ops{ops:Array Oper}(hnd:∀(i:Nat)(o:Oper),ops[i]?=some o→∀c,o.op≠ .defer c):∀(l:List Nat)(a:Act)(w:World),
  wpOps P ops (fun | .normal,a',w'=>Run P c R k a' w' |_,_,_=>False) l a w→Run P c R (.inRegion ops l::k) a w
 | [],_,_,h=>Run.region_end h
 |i::rest,a,w,h=>by
  simp only [wpOps] at h
  cases ho:ops[i]? with
  |none=>
   rw[ho] at h
   refine(Run.ops hnd rest a w h).step fun cs=>?_
   have:=Xdk (P:=P) (c:=c) (a:=a) (k:=k) (w:=w) (ops:=ops) (i:=i) (rest:=rest) (cs:=cs) (by simp [ho])
   rw[this,ho];rfl
  |some o=>
   rw[ho] at h
   simp only at h
   split at h
   ·rename_i hw
    rcases h with h | ⟨_,_,_,hq⟩
    ·refine Run.op ho hw (hnd i o ho) ?_
     have h2:=Oper.wp_mono (fun a' w'=>Run.ops hnd rest a' w') h
     revert h2
     unfold Oper.wp
     generalize (execOp a.eval o).run P w=r
     intro h2
     cases r with
     |ok n w'=>
      cases n<;>simp only [Oper.upon] at h2 ⊢ <;>first
       |exact h2
       |exact Calls.mono h2 fun e w'' he=>by cases e<;>first |exact he | (obtain⟨_,_,hq⟩:=he;exact hq.elim)
     |halt x w'=>cases x<;>simp only [Oper.upon] at h2 ⊢
    ·exact hq.elim
   ·rename_i hw
    exact Run.op_skip ho (by simpa using hw) (Run.ops hnd rest _ _ h)
theorem Run.region_any{id:Nat}{ops:Array Oper}(hm:P.follows .mixedOrders=true)(hnd:∀(i:Nat)(o:Oper),ops[i]?=some o→∀c,o.op≠ .defer c)
  (h:wpAny P .any ops (fun | .normal,a',w'=>Run P c R k a' w' |_,_,_=>False) ops.size (Array.replicate ops.size false) a {w with drawn:=w.drawn+1}):
  Run P c R (.code (.region id ops true)::k) a w:=
 Run.region_draw fun t=>by
  simp only [Region.schedule,hm,Bool.true_or,if_true]
  exact Run.ops hnd _ _ _ (wpAny_sound ops.size t _ a _ h)
end
end Go.Proofs.YtnfalgmfmiolbaaGreat
end

section
namespace Go.Proofs.YtnfalgmfmiolbaaGreat
section
variable{P:Program}{ops:Array Oper}{md:Region.Mode}{C:World→Prop}{EM:List Nat}
def YieldC(P:Program)(ops:Array Oper)(C:World→Prop)(o:Oper)(v:Value)(a:Act):Prop:=
 (Region.wanted o (yielded ops a.tmps)=true∧∀w,C w→(execOp a.eval o).run P w= .ok (.value v) w)∨
 (Region.wanted o (yielded ops a.tmps)=false∧v=undef)
theorem YieldC.of_same{o:Oper}{v:Value}{a a':Act}(hy:YieldC P ops C o v a)(he:execOp a'.eval o=execOp a.eval o)
  (hw:Region.wanted o (yielded ops a'.tmps)=Region.wanted o (yielded ops a.tmps)):YieldC P ops C o v a':=by
 unfold YieldC at*
 rw[he,hw]
 exact hy
def Qn:Exit→Act→World→Prop:=fun _ _ _=>False
theorem YieldC.wpOp{i:Nat}{o:Oper}{v:Value}{a:Act}{w:World}(hi:ops[i]?=some o)(hC:C w)(hy:YieldC P ops C o v a){K:Act→World→Prop}(h:K (a.put o.dst v) w):wpOp P ops Qn i K a w:=by
 unfold Go.wpOp
 simp only [hi]
 rcases hy with ⟨hw,hv⟩ | ⟨hw,rfl⟩
 ·simp only [hw,if_true]
  left
  unfold Oper.wp
  rw[hv w hC]
  exact h
 ·simp only [hw,Bool.false_eq_true,if_false];exact h
theorem Xg9{j:Nat}{oi oj:Oper}{v:Value}(hj:ops[j]?=some oj)(hap:oi.apart ops oj=true)
  (hsi:∀cs b,oi.op≠ .select cs b) (hsj:∀cs b,oj.op≠ .select cs b) {K:Act→World→Prop} {a:Act} {w:World}
  (hy:YieldC P ops C oi v a) (h:wpOp P ops Qn j K (a.put oi.dst v) w):
  wpOp P ops Qn j (fun a' w'=>K (a'.put oi.dst v) w'∧YieldC P ops C oi v a') a w:=by
 obtain⟨h1,h2,h3⟩:=Oper.apart_spec hap
 have keep:∀(a:Act),YieldC P ops C oi v a→∀u,YieldC P ops C oi v (a.put oj.dst u):=fun a hy u=>
  hy.of_same (execOp_put oi hsi a oj.dst u h3) (wanted_put oi a oj.dst u h3)
 unfold Go.wpOp at*
 simp only [hj] at*
 rw[wanted_put oj a oi.dst v h1] at h
 split
 ·rename_i hw
  simp only [hw,if_true] at h
  rcases h with h | ⟨_,_,_,hq⟩
  ·left
   unfold Oper.wp at*
   rw[execOp_put oj hsj a oi.dst v h1] at h
   generalize (execOp a.eval oj).run P w=r at*
   cases r with
   |halt x w'=>cases x<;>simp only [Oper.upon,Qn] at h
   |ok n w'=>
    cases n<;>simp only [Oper.upon] at h ⊢
    case value u=>exact⟨by rw[← Act.put_comm a v u h2];exact h,keep a hy u⟩
    case skip=>exact⟨by rw[← Act.put_comm a v undef h2];exact h,keep a hy undef⟩
    case defer d=>
     refine⟨?_,?_⟩
     ·rw[← Act.put_comm _ v undef h2, ← Act.put_defers];exact h
     ·exact keep {a with defers:=d::a.defers} (hy.of_same rfl rfl) undef
    case enter f args=>
     refine Calls.mono h fun e w'' he=>?_
     cases e with
     |returned u=>exact⟨by rw[← Act.put_comm a v u h2];exact he,keep a hy u⟩
     |panicked ch=>exact he
     |outgrown=>exact he
    case row row args=>
     exact Rows.mono h fun u w'' he=>⟨by rw[← Act.put_comm a v u h2];exact he,keep a hy u⟩
  ·exact hq.elim
 ·rename_i hw
  simp only [hw] at h
  exact⟨by rw[← Act.put_comm a v undef h2];exact h,keep a hy undef⟩
def wpAnyC(P:Program)(md:Region.Mode)(ops:Array Oper)(C:World→Prop)(EM:List Nat)(Q:Act→World→Prop):Nat→Array Bool→Act→World→Prop
 |0,listed,a,w=>Region.ready md ops listed=[]∧Q a w
 |fuel+1,listed,a,w=>
  (Region.ready md ops listed=[]→Q a w)∧
  ∀i∈Region.ready md ops listed,wpOp P ops Qn i (fun a' w'=>(i∈EM→C w')∧wpAnyC P md ops C EM Q fuel (listed.setIfInBounds i true) a' w') a w
theorem Xdl{i:Nat}{a:Act}{w:World}{K:Act→World→Prop}{Q:Exit→Act→World→Prop}(h:wpOp P ops Qn i K a w):wpOp P ops Q i K a w:=by
 unfold Go.wpOp at*
 split
 ·rename_i h0;simpa [h0] using h
 ·rename_i o h0
  simp only [h0] at h
  split
  ·rename_i hw
   simp only [hw,if_true] at h
   rcases h with h | ⟨_,_,_,hq⟩
   ·left
    unfold Oper.wp at*
    generalize (execOp a.eval o).run P w=r at*
    cases r with
    |halt x w'=>cases x<;>simp only [Oper.upon,Qn] at h
    |ok n w'=>
     cases n<;>simp only [Oper.upon] at h ⊢ <;>first
      |exact h
      |exact Calls.mono h fun e w'' he=>by cases e<;>first |exact he |exact he.elim | (obtain⟨_,_,hq⟩:=he;exact hq.elim)
   ·exact hq.elim
  ·rename_i hw;simpa [hw] using h
theorem Xdm{Q:Act→World→Prop}{Q':Exit→Act→World→Prop}(hQ:∀a w,Q a w→Q' .normal a w):∀(fuel:Nat)(listed:Array Bool)(a:Act)(w:World),
  wpAnyC P md ops C EM Q fuel listed a w→wpAny P md ops Q' fuel listed a w
 |0,_,_,_,h=>⟨h.1,hQ _ _ h.2⟩
 |fuel+1,_,_,_,h=>⟨fun h0=>hQ _ _ (h.1 h0),fun i hi=>wpOp_mono (fun a' w' h'=>Xdm hQ fuel _ a' w' h'.2) (Xdl (h.2 i hi))⟩
theorem Xez{Q:Act→World→Prop}(W:List Nat){i:Nat}{oi:Oper}{v:Value}(hi:ops[i]?=some oi)(hsel:∀(j:Nat)(o:Oper) cs b,ops[j]?=some o→o.op≠ .select cs b):
  ∀(fuel:Nat)(listed:Array Bool)(a:Act)(w:World),C w→
   (∀j oj,ops[j]?=some oj→j≠i→listed.getD j true=false→j ∉ W→oi.apart ops oj=true∧j∈EM)→
   (∀j∈W,listed.getD j true=false∧∀oj,ops[j]?=some oj→∃e∈oj.after,Region.binds md e=true∧(e.on=i∨e.on∈W))→
   i∈Region.ready md ops listed→YieldC P ops C oi v a→
   wpAnyC P md ops C EM Q fuel (listed.setIfInBounds i true) (a.put oi.dst v) w→wpAnyC P md ops C EM Q (fuel+1) listed a w:=by
 intro fuel
 induction fuel with
 |zero=>
  intro listed a w hC _ _ hr hy H
  refine⟨fun h=>(by rw[h] at hr;cases hr),fun j hj=>?_⟩
  by_cases hji:j=i
  ·subst hji;exact hy.wpOp hi hC ⟨fun _=>hC,H⟩
  ·have:=ready_mono hj hji
   rw[H.1] at this
   cases this
 |succ fuel ih=>
  intro listed a w hC hfree hW hr hy H
  refine⟨fun h=>(by rw[h] at hr;cases hr),fun j hj=>?_⟩
  by_cases hji:j=i
  ·subst hji;exact hy.wpOp hi hC ⟨fun _=>hC,H⟩
  ·have h1:=H.2 j (ready_mono hj hji)
   obtain⟨hjun,oj,hoj,hall⟩:=mem_ready.1 hj
   have hnot:j ∉ W:=fun hjW=>by
    obtain⟨_,hex⟩:=hW j hjW
    obtain⟨e,he,hb,hon⟩:=hex oj hoj
    have h1:=hall e he hb
    have h0:listed.getD e.on true=false:=by
     rcases hon with heq |hin
     ·rw[heq];exact(mem_ready.1 hr).1
     ·exact(hW _ hin).1
    rcases Nat.lt_or_ge e.on listed.size with h' |h'
    ·simp [h'] at h0 h1;rw[h0] at h1;cases h1
    ·simp [Array.getElem?_eq_none h'] at h1
   obtain⟨hap,hem⟩:=hfree j oj hoj hji hjun hnot
   have h2:=Xg9 hoj hap (fun cs b=>hsel i oi cs b hi) (fun cs b=>hsel j oj cs b hoj) hy h1
   have hfree':∀k ok,ops[k]?=some ok→k≠i→(listed.setIfInBounds j true).getD k true=false→
     k ∉ W→oi.apart ops ok=true∧k∈EM:=fun k ok hk hki hun hno=>by
    refine hfree k ok hk hki ?_ hno
    by_cases hjk:j=k
    ·subst hjk;exact hjun
    ·rw[getD_set_ne true hjk] at hun;exact hun
   have hW':∀k∈W,(listed.setIfInBounds j true).getD k true=false∧∀ok,ops[k]?=some ok→∃e∈ok.after,Region.binds md e=true∧(e.on=i∨e.on∈W):=fun k hk=>by
    obtain⟨h5,h6⟩:=hW k hk
    refine⟨?_,h6⟩
    have hne:j≠k:=fun e=>hnot (by rw[e];exact hk)
    rw[getD_set_ne true hne];exact h5
   refine wpOp_mono (fun a' w' h3=>⟨fun he=>h3.1.1 he,ih (listed.setIfInBounds j true) a' w' (h3.1.1 hem) hfree' hW' (ready_mono hr (Ne.symm hji)) h3.2 ?_⟩) h2
   rw[Array.setIfInBounds_comm _ _ hji]
   exact h3.1.2
inductive OT where
 |nil
 |q (i:Nat) (t:OT)
 |e (i:Nat) (m:Nat) (t:OT)
 |alt (a b:OT)
def wpCan(P:Program)(ops:Array Oper)(C:World→Prop)(EM:List Nat)(Q:Act→World→Prop):OT→Act→World→Prop
 | .nil,a,w=>Q a w
 | .q i t,a,w=>∃o v,ops[i]?=some o∧YieldC P ops C o v a∧wpCan P ops C EM Q t (a.put o.dst v) w
 | .e i _ t,a,w=>wpOp P ops Qn i (fun a' w'=>(i∈EM→C w')∧wpCan P ops C EM Q t a' w') a w
 | .alt x y,a,w=>wpCan P ops C EM Q x a w∧wpCan P ops C EM Q y a w
def OT.heads:OT→List Nat
 | .nil=>[]
 | .q _ _=>[]
 | .e i _ _=>[i]
 | .alt a b=>a.heads++b.heads
def OT.depth:OT→Nat
 | .nil=>0
 | .q _ t=>t.depth+1
 | .e _ _ t=>t.depth+1
 | .alt a _=>a.depth
def waitSet(md:Region.Mode)(ops:Array Oper)(i:Nat)(listed:Array Bool):Nat→List Nat→List Nat
 |0,W=>W
 |n+1,W=>waitSet md ops i listed n ((List.range ops.size).filter fun j=>match ops[j]? with
  |none=>false
  |some oj=> !listed.getD j true && oj.after.any (fun e=>Region.binds md e && (e.on == i || W.contains e.on)))
def freeB(md:Region.Mode)(ops:Array Oper)(EM:List Nat)(i:Nat)(listed:Array Bool):Bool:=
 let W:=waitSet md ops i listed 8 []
 (W.all fun j=>match ops[j]? with
  |none=>false
  |some oj=> !listed.getD j true && oj.after.any (fun e=>Region.binds md e && (e.on == i || W.contains e.on))) &&
 match ops[i]? with
 |none=>false
 |some oi=>(List.range ops.size).all fun j=>match ops[j]? with
  |none=>true
  |some oj=>j == i || listed.getD j true || W.contains j || (oi.apart ops oj && EM.contains j)
def canG(md:Region.Mode)(ops:Array Oper)(EM:List Nat):OT→Bool→Bool→Array Bool→Bool
 | .nil,solo,_,listed=>solo && (Region.ready md ops listed).isEmpty
 | .q i t,solo,kept,listed=>solo && (kept && (Region.ready md ops listed).contains i && freeB md ops EM i listed && canG md ops EM t true kept (listed.setIfInBounds i true))
 | .e i _ t,solo,kept,listed=>(!solo || (!(Region.ready md ops listed).isEmpty && (Region.ready md ops listed).all fun j=>j == i)) && canG md ops EM t true (kept && EM.contains i) (listed.setIfInBounds i true)
 | .alt x y,solo,kept,listed=>(!solo || (!(Region.ready md ops listed).isEmpty && (Region.ready md ops listed).all fun j=>(OT.alt x y).heads.contains j)) && ((x.depth == y.depth) && canG md ops EM x false kept listed && canG md ops EM y false kept listed)
def canB(md:Region.Mode)(ops:Array Oper)(EM:List Nat)(t:OT)(kept:Bool)(listed:Array Bool):Bool:=canG md ops EM t true kept listed
def canS(md:Region.Mode)(ops:Array Oper)(EM:List Nat)(t:OT)(kept:Bool)(listed:Array Bool):Bool:=canG md ops EM t false kept listed
theorem Xil(kept:Bool)(listed:Array Bool):canB md ops EM .nil kept listed=(Region.ready md ops listed).isEmpty:=by simp [canB,canG]
theorem Xm2(i:Nat)(t:OT)(kept:Bool)(listed:Array Bool):canB md ops EM (.q i t) kept listed=(kept && (Region.ready md ops listed).contains i && freeB md ops EM i listed && canB md ops EM t kept (listed.setIfInBounds i true)):=by
 simp only [canB,canG,Bool.true_and]
theorem Xm3(i m:Nat)(t:OT)(kept:Bool)(listed:Array Bool):canB md ops EM (.e i m t) kept listed=((!(Region.ready md ops listed).isEmpty && (Region.ready md ops listed).all fun j=>j == i) && canS md ops EM (.e i m t) kept listed):=by
 simp only [canB,canS,canG,Bool.not_true,Bool.not_false,Bool.false_or,Bool.true_or,Bool.true_and]
theorem Xim(x y:OT)(kept:Bool)(listed:Array Bool):canB md ops EM (.alt x y) kept listed=((!(Region.ready md ops listed).isEmpty && (Region.ready md ops listed).all fun j=>(OT.alt x y).heads.contains j) && canS md ops EM (.alt x y) kept listed):=by
 simp only [canB,canS,canG,Bool.not_true,Bool.not_false,Bool.false_or,Bool.true_or,Bool.true_and]
theorem Xin(kept:Bool)(listed:Array Bool):canS md ops EM .nil kept listed=false:=by simp [canS,canG]
theorem Xm4(i:Nat)(t:OT)(kept:Bool)(listed:Array Bool):canS md ops EM (.q i t) kept listed=false:=by simp [canS,canG]
theorem Xm5(i m:Nat)(t:OT)(kept:Bool)(listed:Array Bool):canS md ops EM (.e i m t) kept listed=canB md ops EM t (kept && EM.contains i) (listed.setIfInBounds i true):=by simp [canS,canB,canG]
theorem Xio(x y:OT)(kept:Bool)(listed:Array Bool):canS md ops EM (.alt x y) kept listed=((x.depth == y.depth) && canS md ops EM x kept listed && canS md ops EM y kept listed):=by simp [canS,canG]
def noSel(ops:Array Oper):Bool:=ops.toList.all fun o=>match o.op with | .select .. =>false | .defer _=>false |_=>true
theorem Xf0(h:noSel ops=true)(j:Nat)(o:Oper)(cs:Array SelectCase)(b:Bool)(hj:ops[j]?=some o):o.op≠ .select cs b:=by
 intro e
 have:=(List.all_eq_true.1 h) o (by simpa using Array.mem_of_getElem? hj)
 rw[e] at this
 cases this
theorem Xbf(h:noSel ops=true)(j:Nat)(o:Oper)(hj:ops[j]?=some o)(c:Call):o.op≠ .defer c:=by
 intro e
 have:=(List.all_eq_true.1 h) o (by simpa using Array.mem_of_getElem? hj)
 rw[e] at this
 cases this
theorem Xdn{i:Nat}{oi:Oper}{listed:Array Bool}(hi:ops[i]?=some oi)(h:freeB md ops EM i listed=true):
  ∃W:List Nat,(∀j oj,ops[j]?=some oj→j≠i→listed.getD j true=false→j ∉ W→oi.apart ops oj=true∧j∈EM)∧
   ∀j∈W,listed.getD j true=false∧∀oj,ops[j]?=some oj→∃e∈oj.after,Region.binds md e=true∧(e.on=i∨e.on∈W):=by
 unfold freeB at h
 generalize waitSet md ops i listed 8 []=W at h
 simp only [hi,Bool.and_eq_true] at h
 obtain⟨h1,h2⟩:=h
 refine⟨W,fun j oj hj hji hl hno=>?_,fun j hj=>?_⟩
 ·have hjs:j<ops.size:=by
   rcases Nat.lt_or_ge j ops.size with h' |h'
   ·exact h'
   ·rw[Array.getElem?_eq_none h'] at hj;cases hj
  have:=List.all_eq_true.1 h2 j (List.mem_range.2 hjs)
  simp only [hj,hl,Bool.or_false,Bool.or_eq_true,beq_iff_eq,Bool.and_eq_true] at this
  rcases this with (h3 |h3) |h3
  ·exact absurd h3 hji
  ·exact absurd (by simpa using h3) hno
  ·exact⟨h3.1,by simpa using h3.2⟩
 ·have:=List.all_eq_true.1 h1 j hj
  cases ho:ops[j]? with
  |none=>simp [ho] at this
  |some oj=>
   simp only [ho,Bool.and_eq_true,Bool.not_eq_true'] at this
   refine⟨this.1,fun ok hk=>?_⟩
   cases hk
   obtain⟨n,hn,he⟩:=Array.any_eq_true.1 this.2
   simp only [Bool.and_eq_true,beq_iff_eq,Bool.or_eq_true] at he
   exact⟨_,Array.getElem_mem hn,he.1,he.2.imp id (fun h=>by simpa using h)⟩
theorem X5u{Q:Act→World→Prop}(hs:noSel ops=true):∀(t:OT),
  (∀(kept:Bool)(listed:Array Bool)(a:Act)(w:World),canB md ops EM t kept listed=true→(kept=true→C w)→wpCan P ops C EM Q t a w→wpAnyC P md ops C EM Q t.depth listed a w)∧
  (∀(kept:Bool)(listed:Array Bool)(a:Act)(w:World),canS md ops EM t kept listed=true→(kept=true→C w)→wpCan P ops C EM Q t a w→
   ∃n,t.depth=n+1∧∀i∈t.heads,wpOp P ops Qn i (fun a' w'=>(i∈EM→C w')∧wpAnyC P md ops C EM Q n (listed.setIfInBounds i true) a' w') a w)
 | .nil=>⟨fun _ _ _ _ hB _ h=>⟨by simpa [Xil] using hB,h⟩,fun _ _ _ _ hB=>by simp [Xin] at hB⟩
 | .q i t=>⟨fun kept listed a w hB hC h=>by
   simp only [Xm2,Bool.and_eq_true] at hB
   obtain⟨⟨⟨hk,hr⟩,hf⟩,hB'⟩:=hB
   obtain⟨o,v,ho,hy,hK⟩:=h
   obtain⟨W,hw1,hw2⟩:=Xdn ho hf
   exact Xez W ho (fun j o' cs b hj=>Xf0 hs j o' cs b hj) t.depth listed a w (hC hk) hw1 hw2 (by simpa using hr) hy
    ((X5u hs t).1 kept _ _ _ hB' hC hK),fun _ _ _ _ hB=>by simp [Xm4] at hB⟩
 | .e i m t=>by
  have key:∀(kept:Bool)(listed:Array Bool)(a:Act)(w:World),canS md ops EM (.e i m t) kept listed=true→(kept=true→C w)→wpCan P ops C EM Q (.e i m t) a w→
    wpOp P ops Qn i (fun a' w'=>(i∈EM→C w')∧wpAnyC P md ops C EM Q t.depth (listed.setIfInBounds i true) a' w') a w:=fun kept listed a w hB hC h=>
   wpOp_mono (fun a' w' h'=>⟨h'.1,(X5u hs t).1 _ _ a' w' (by rw[Xm5] at hB;exact hB) (fun hk=>by
    simp only [Bool.and_eq_true] at hk
    exact h'.1 (by simpa using hk.2)) h'.2⟩) h
  refine⟨fun kept listed a w hB hC h=>?_,fun kept listed a w hB hC h=>⟨t.depth,rfl,fun j hj=>?_⟩⟩
  ·rw[Xm3,Bool.and_eq_true,Bool.and_eq_true] at hB
   refine⟨fun h0=>?_,fun j hj=>?_⟩
   ·rw[h0] at hB;simp at hB
   ·have:=List.all_eq_true.1 hB.1.2 j hj
    simp only [beq_iff_eq] at this
    subst this
    exact key kept listed a w hB.2 hC h
  ·simp only [OT.heads,List.mem_singleton] at hj
   subst hj
   exact key kept listed a w hB hC h
 | .alt x y=>by
  have key:∀(kept:Bool)(listed:Array Bool)(a:Act)(w:World),canS md ops EM (.alt x y) kept listed=true→(kept=true→C w)→wpCan P ops C EM Q (.alt x y) a w→
    ∃n,(OT.alt x y).depth=n+1∧∀i∈(OT.alt x y).heads,wpOp P ops Qn i (fun a' w'=>(i∈EM→C w')∧wpAnyC P md ops C EM Q n (listed.setIfInBounds i true) a' w') a w:=fun kept listed a w hB hC h=>by
   rw[Xio,Bool.and_eq_true,Bool.and_eq_true,beq_iff_eq] at hB
   obtain⟨n,hn,hx⟩:=(X5u hs x).2 kept listed a w hB.1.2 hC h.1
   obtain⟨n',hn',hy⟩:=(X5u hs y).2 kept listed a w hB.2 hC h.2
   have:n'=n:=by have:=hB.1.1;omega
   subst this
   refine⟨n',hn,fun i hi=>?_⟩
   rcases List.mem_append.1 hi with hi |hi
   ·exact hx i hi
   ·exact hy i hi
  refine⟨fun kept listed a w hB hC h=>?_,key⟩
  rw[Xim,Bool.and_eq_true,Bool.and_eq_true] at hB
  obtain⟨n,hn,hk⟩:=key kept listed a w hB.2 hC h
  rw[hn]
  refine⟨fun h0=>?_,fun j hj=>hk j (by simpa using List.all_eq_true.1 hB.1.2 j hj)⟩
  rw[h0] at hB;simp at hB
theorem Run.region_can{c:Cx}{R:Value→World→Prop}{a:Act}{w:World}{k:List Item}{id:Nat}(hm:P.follows .mixedOrders=true)(hs:noSel ops=true)(l:OT)(EM:List Nat)(C:World→Prop)
  (hl:l.depth=ops.size) (hB:canB .any ops EM l true (Array.replicate ops.size false)=true) (hC:C {w with drawn:=w.drawn+1})
  (h:wpCan P ops C EM (fun a' w'=>Run P c R k a' w') l a {w with drawn:=w.drawn+1}):Run P c R (.code (.region id ops true)::k) a w:=by
 refine Run.region_any hm (fun i o hi=>Xbf hs i o hi) ?_
 refine Xdm (Q:=fun a' w'=>Run P c R k a' w') (fun _ _ h=>h) _ _ _ _ (?_:wpAnyC P .any ops C EM _ _ _ _ _)
 rw[← hl]
 have:=(X5u (P:=P) (C:=C) (md:= .any) hs l).1 true (Array.replicate ops.size false) a _ hB (fun _=>hC) h
 rwa [hl] at this ⊢
end
end Go.Proofs.YtnfalgmfmiolbaaGreat
end

section
namespace Go.Proofs.YtnfalgmfmiolbaaGreat
abbrev Hp:=Nat→Option Obj
abbrev Env:=List (Nat×Value)
abbrev Blks:=List (Nat×Obj)
structure Guest where
 blks:List Nat
 nodup:blks.Nodup
 holds:World→Prop
 lt:∀w,holds w→∀b∈blks,b<w.heap.size
 same:∀w w',holds w→(∀b∈blks,w'.heap[b]?=w.heap[b]?)→holds w'
inductive OwnS where
 |s (v:Value) (T:TypeId) (sz n:Nat) (cs:List Value)
 |g (R:Guest)
def HpIn(G:Hp)(w:World):Prop:=∀b o,G b=some o→w.heap[b]?=some o
def OwnS.holds:OwnS→World→Prop
 | .s v T sz n cs,w=>w.ownsRow 0 T sz v n cs
 | .g R,w=>R.holds w
def OwnS.blocks:OwnS→List Nat
 | .s v _ _ _ _=>v.ownBlock.toList
 | .g R=>R.blks
theorem Xch{w:World}{b:Nat}{o:Obj}(h:w.heap[b]?=some o):b<w.heap.size:=(Array.getElem?_eq_some_iff.1 h).1
theorem Xdx{w:World}{T sz n:Nat}{v:Value}{cs:List Value}(h:w.ownsRow 0 T sz v n cs){b:Nat}(hb:v.ownBlock=some b):∃cur,w.heap[b]?=some (.cells cur T (0,0)):=by
 rcases h.2 with ⟨rfl,_⟩ | ⟨g,cap,cur,rfl,_,hg,_⟩
 ·simp [Value.ownBlock] at hb
 ·simp only [Value.ownBlock,Option.some.injEq] at hb
  subst hb
  exact⟨cur,hg⟩
theorem Xf1{w w':World}{T sz n:Nat}{v:Value}{cs:List Value}(h:w.ownsRow 0 T sz v n cs)(hb:∀b,v.ownBlock=some b→w'.heap[b]?=w.heap[b]?):w'.ownsRow 0 T sz v n cs:=by
 refine⟨h.1,?_⟩
 rcases h.2 with h | ⟨g,cap,cur,rfl,h1,hg,r⟩
 ·exact .inl h
 ·exact .inr ⟨g,cap,cur,rfl,h1,by rw[hb g rfl];exact hg,r⟩
theorem OwnS.same{w w':World}{s:OwnS}(h:s.holds w)(hb:∀b∈s.blocks,w'.heap[b]?=w.heap[b]?):s.holds w':=by
 cases s with
 |s v T sz n cs=>exact Xf1 h fun b hv=>hb b (by simp [OwnS.blocks,hv])
 |g R=>exact R.same _ _ h hb
theorem OwnS.lt{w:World}{s:OwnS}(h:s.holds w):∀b∈s.blocks,b<w.heap.size:=by
 cases s with
 |s v T sz n cs=>
  intro b hb
  simp only [OwnS.blocks,Option.mem_toList] at hb
  obtain⟨cur,hc⟩:=Xdx h hb
  exact Xch hc
 |g R=>exact R.lt _ h
structure Mem(Fs:List Hp)(bl:Blks)(sl:List OwnS)(w:World):Prop where
 fs:∀G∈Fs,HpIn G w
 own:∀p∈bl,w.heap[p.1]?=some p.2
 slh:∀s∈sl,s.holds w
structure Keep(w0:World)(S:List Nat)(w:World):Prop where
 os:w.os=w0.os
 tape:w.tape=w0.tape
 output:w.output=w0.output
 size:w0.heap.size≤w.heap.size
 block:∀b,b<w0.heap.size→b ∉ S→w.heap[b]?=w0.heap[b]?
theorem Keep.refl(w:World)(S:List Nat):Keep w S w:=⟨rfl,rfl,rfl,Nat.le_refl _,fun _ _ _=>rfl⟩
def blks(bl:Blks)(sl:List OwnS):List Nat:=bl.map (·.1)++sl.flatMap OwnS.blocks
structure Inv(w0:World)(S0:List Nat)(Fs:List Hp)(bl:Blks)(sl:List OwnS)(w:World):Prop where
 mem:Mem Fs bl sl w
 keep:Keep w0 S0 w
 nodup:(blks bl sl).Nodup
 mine:∀b∈blks bl sl,b∈S0∨w0.heap.size≤b
 apart:∀b∈blks bl sl,∀G∈Fs,G b=none
def Fits(nt:Nat)(df:List Deferred)(ρ:Env)(a:Act):Prop:=
 a.defers=df∧a.tmps.size=nt∧∀t v,ρ.lookup t=some v→a.tmps[t]?=some v
def Cov(nt:Nat)(w0:World)(S0:List Nat)(df:List Deferred)(ρ:Env)(Fs:List Hp)(bl:Blks)(sl:List OwnS)(K:Act→World→Prop):Prop:=
 ∀a w,Fits nt df ρ a→Inv w0 S0 Fs bl sl w→K a w
def ev(ρ:Env):Operand→Option Value
 | .tmp t=>ρ.lookup t
 | .const v=>some v
 | .global g=>some (.pointer (some ⟨g,0,none⟩))
 | .func f=>some (.func (.func f) #[] #[])
theorem X10{nt:Nat}{df:List Deferred}{ρ:Env}{a:Act}(h:Fits nt df ρ a){x:Operand}{v:Value}(hx:ev ρ x=some v):a.eval x=v:=by
 cases x with
 |tmp t=>
  have:=h.2.2 t v hx
  simp [Act.eval,Array.getD_eq_getD_getElem?,this]
 |const u=>simpa [ev,Act.eval] using hx
 |global g=>simpa [ev,Act.eval] using hx
 |func f=>simpa [ev,Act.eval] using hx
theorem Fits.put{nt:Nat}{df:List Deferred}{ρ:Env}{a:Act}(h:Fits nt df ρ a){d:Nat}(hd:Nat.blt d nt=true)(v:Value):Fits nt df ((d,v)::ρ) (a.put (some d) v):=by
 obtain⟨h1,h2,h3⟩:=h
 have hd':d<nt:=by simpa [Nat.blt_eq] using hd
 refine⟨h1,by simpa [Act.put] using h2,fun t u ht=>?_⟩
 simp only [List.lookup] at ht
 by_cases e:t=d
 ·subst e
  simp only [beq_self_eq_true] at ht
  cases ht
  simp [Act.put,h2,hd']
 ·have e':(t == d)=false:=by simpa using e
  simp only [e'] at ht
  have:=h3 t u ht
  simp only [Act.put]
  rw[Array.getElem?_setIfInBounds_ne (fun h=>e h.symm)]
  exact this
theorem Fits.put_none{nt:Nat}{df:List Deferred}{ρ:Env}{a:Act}(h:Fits nt df ρ a)(v:Value):Fits nt df ρ (a.put none v):=h
theorem Fits.sub{nt:Nat}{df:List Deferred}{ρ ρ':Env}{a:Act}(h:Fits nt df ρ a)(hs:∀t v,ρ'.lookup t=some v→ρ.lookup t=some v):Fits nt df ρ' a:=
 ⟨h.1,h.2.1,fun t v ht=>h.2.2 t v (hs t v ht)⟩
def Sub(ρ:Env):Env→Prop
 | []=>True
 | (t,v)::r=>ρ.lookup t=some v∧Sub ρ r
theorem Sub.spec{ρ:Env}:∀{ρ':Env},Sub ρ ρ'→∀t v,ρ'.lookup t=some v→ρ.lookup t=some v
 | [],_,t,v,h=>by simp at h
 | (s,u)::r,⟨h1,h2⟩,t,v,h=>by
  simp only [List.lookup] at h
  by_cases e:t=s
  ·subst e;simp only [beq_self_eq_true] at h;cases h;exact h1
  ·have e':(t == s)=false:=by simpa using e
   simp only [e'] at h
   exact Sub.spec h2 t v h
section
variable{P:Program}{c:Cx}{R:Value→World→Prop}{nt:Nat}{w0:World}{S0:List Nat}{df:List Deferred}{ρ ρ':Env}{Fs Fs':List Hp}{bl bl':Blks}{sl sl':List OwnS}
 {K K':Act→World→Prop} {k:List Item}
theorem Cov.mono(h:Cov nt w0 S0 df ρ Fs bl sl K)(hk:∀a w,K a w→K' a w):Cov nt w0 S0 df ρ Fs bl sl K':=fun a w hf hi=>hk _ _ (h a w hf hi)
theorem Cov.prune(ρ':Env)(hs:Sub ρ ρ')(h:Cov nt w0 S0 df ρ' Fs bl sl K):Cov nt w0 S0 df ρ Fs bl sl K:=
 fun a w hf hi=>h a w (hf.sub hs.spec) hi
theorem Cov.same(h1:bl=bl')(h2:sl=sl')(h3:Fs=Fs')(h:Cov nt w0 S0 df ρ Fs' bl' sl' K):Cov nt w0 S0 df ρ Fs bl sl K:=by
 subst h1 h2 h3;exact h
theorem Cov.skip(h:Cov nt w0 S0 df ρ Fs bl sl (Run P c R k)):Cov nt w0 S0 df ρ Fs bl sl (Run P c R (.code .skip::k)):=h.mono fun _ _=>Run.skip
theorem Cov.inBlock{id:Nat}(h:Cov nt w0 S0 df ρ Fs bl sl (Run P c R k)):Cov nt w0 S0 df ρ Fs bl sl (Run P c R (.inBlock id::k)):=h.mono fun _ _=>Run.inBlock
theorem Cov.seq{x y:Code}(h:Cov nt w0 S0 df ρ Fs bl sl (Run P c R (.code x:: .code y::k))):Cov nt w0 S0 df ρ Fs bl sl (Run P c R (.code (.seq x y)::k)):=h.mono fun _ _=>Run.seq
theorem Cov.block{id:Nat}{x:Code}(h:Cov nt w0 S0 df ρ Fs bl sl (Run P c R (.code x:: .inBlock id::k))):Cov nt w0 S0 df ρ Fs bl sl (Run P c R (.code (.block id x)::k)):=h.mono fun _ _=>Run.block
theorem Cov.exit{id:Nat}{k':List Item}(hk:exitTo id k=some k')(h:Cov nt w0 S0 df ρ Fs bl sl (Run P c R k')):Cov nt w0 S0 df ρ Fs bl sl (Run P c R (.code (.exit id)::k)):=h.mono fun _ _=>Run.exit hk
theorem Cov.cond{x y:Code}{o:Operand}{t:Bool}(hc:ev ρ o=some (.bool t))(ht:t=true→Cov nt w0 S0 df ρ Fs bl sl (Run P c R (.code x::k)))(hf:t=false→Cov nt w0 S0 df ρ Fs bl sl (Run P c R (.code y::k))):
  Cov nt w0 S0 df ρ Fs bl sl (Run P c R (.code (.cond o x y)::k)):=fun a w hfi hi=>by
 refine Run.cond (X10 hfi hc) ?_
 cases t
 ·exact hf rfl a w hfi hi
 ·exact ht rfl a w hfi hi
theorem Cov.cond_dec{x y:Code}{o:Operand}{p:Prop}[Decidable p](hc:ev ρ o=some (.bool (decide p)))(ht:p→Cov nt w0 S0 df ρ Fs bl sl (Run P c R (.code x::k)))(hf:¬p→Cov nt w0 S0 df ρ Fs bl sl (Run P c R (.code y::k))):
  Cov nt w0 S0 df ρ Fs bl sl (Run P c R (.code (.cond o x y)::k)):=
 Cov.cond hc (fun h=>ht (of_decide_eq_true h)) (fun h=>hf (of_decide_eq_false h))
theorem Cov.cond_false{x y:Code}{o:Operand}(hc:ev ρ o=some (.bool false))(hf:Cov nt w0 S0 df ρ Fs bl sl (Run P c R (.code y::k))):
  Cov nt w0 S0 df ρ Fs bl sl (Run P c R (.code (.cond o x y)::k)):=Cov.cond hc (fun h=>by cases h) (fun _=>hf)
theorem Cov.split(t:Nat){p:Prop}[Decidable p](hc:ρ.lookup t=some (.bool (decide p)))(ht:p→Cov nt w0 S0 df ((t, .bool true)::ρ) Fs bl sl K)(hf:¬p→Cov nt w0 S0 df ((t, .bool false)::ρ) Fs bl sl K):
  Cov nt w0 S0 df ρ Fs bl sl K:=fun a w hfi hi=>by
 have key:∀b:Bool,decide p=b→Fits nt df ((t, .bool b)::ρ) a:=fun b hb=>by
  refine⟨hfi.1,hfi.2.1,fun s v hs=>?_⟩
  simp only [List.lookup] at hs
  by_cases e:s=t
  ·subst e;simp only [beq_self_eq_true] at hs;cases hs;rw[← hb];exact hfi.2.2 _ _ hc
  ·have e':(s == t)=false:=by simpa using e
   simp only [e'] at hs
   exact hfi.2.2 _ _ hs
 by_cases hp:p
 ·exact ht hp a w (key true (by simpa using hp)) hi
 ·exact hf hp a w (key false (by simpa using hp)) hi
theorem Cov.split_b(t:Nat){b:Bool}(hc:ρ.lookup t=some (.bool b))(ht:b=true→Cov nt w0 S0 df ((t, .bool true)::ρ) Fs bl sl K)(hf:b=false→Cov nt w0 S0 df ((t, .bool false)::ρ) Fs bl sl K):
  Cov nt w0 S0 df ρ Fs bl sl K:=
 Cov.split t (p:=b=true) (by simpa using hc) ht (fun h=>hf (by simpa using h))
theorem Cov.loop{α:Type}(ρI:α→Env)(FsI:α→List Hp)(blI:α→Blks)(slI:α→List OwnS)(I:α→Prop)(μ:α→Nat){x:Code}
  (round:∀y,I y→(∀z,I z→μ z<μ y→Cov nt w0 S0 df (ρI z) (FsI z) (blI z) (slI z) (Run P c R (.inLoop x::k)))→
   Cov nt w0 S0 df (ρI y) (FsI y) (blI y) (slI y) (Run P c R (.code x:: .inLoop x::k)))
  (y:α) (hy:I y):Cov nt w0 S0 df (ρI y) (FsI y) (blI y) (slI y) (Run P c R (.code (.loop x)::k)):=by
 have key:∀n y,μ y=n→I y→Cov nt w0 S0 df (ρI y) (FsI y) (blI y) (slI y) (Run P c R (.code x:: .inLoop x::k)):=by
  intro n
  induction n using Nat.strongRecOn with
  |_ n ih=>
   intro y hn hy
   exact round y hy fun z hz hlt=>(ih (μ z) (hn▸hlt) z rfl hz).mono fun _ _=>Run.inLoop
 exact(key _ y rfl hy).mono fun _ _=>Run.loop
end
end Go.Proofs.YtnfalgmfmiolbaaGreat
end

section
namespace Go.Proofs.YtnfalgmfmiolbaaGreat
structure OpX where
 dst:Option Tmp
 op:Op
 ty:TypeId
 guard:Option (Tmp×Bool)
def OpX.oper(o:OpX):Oper:=⟨o.dst,o.op,o.ty,"",#[],none⟩
def wantedT(a:Act):Option (Tmp×Bool)→Bool
 |none=>true
 |some (t,b)=>match a.tmps[t]? with
  |some (.bool x)=>x == b
  |_=>false
def opW(P:Program)(o:OpX)(K:Act→World→Prop)(a:Act)(w:World):Prop:=
 Oper.wp P o.oper a w K Qf∨
  ∃l f tmps as1 body w',(execOp a.eval o.oper).run P w= .ok (.round l f tmps as1 body) w'∧RoundV P l f tmps as1 body w' fun v w''=>K (a.put o.dst v) w''
def RO(P:Program)(c:Cx)(R:Value→World→Prop):List OpX→List Item→Act→World→Prop
 | [],k,a,w=>Run P c R k a w
 |o::os,k,a,w=>if wantedT a o.guard then opW P o (RO P c R os k) a w else RO P c R os k (a.put o.dst undef) w
inductive OX where
 |nil
 |q (o:OpX) (t:OX)
 |e (o:OpX) (m:Nat) (t:OX)
 |alt (a b:OX)
def DO(P:Program)(c:Cx)(R:Value→World→Prop)(C:World→Prop):OX→List Item→Act→World→Prop
 | .nil,k,a,w=>Run P c R k a w
 | .q o t,k,a,w=>∃v,((wantedT a o.guard=true∧∀w,C w→(execOp a.eval o.oper).run P w= .ok (.value v) w)∨(wantedT a o.guard=false∧v=undef))∧DO P c R C t k (a.put o.dst v) w
 | .e o 1 t,k,a,w=>if wantedT a o.guard then Oper.wp P o.oper a w (fun a' w'=>C w'∧DO P c R C t k a' w') Qf else(C w∧DO P c R C t k (a.put o.dst undef) w)
 | .e o _ t,k,a,w=>if wantedT a o.guard then Oper.wp P o.oper a w (DO P c R C t k) Qf else DO P c R C t k (a.put o.dst undef) w
 | .alt x y,k,a,w=>DO P c R C x k a w∧DO P c R C y k a w
def guardOf(ops:Array Oper):Option (Nat×Bool)→Option (Tmp×Bool)
 |none=>none
 |some (j,b)=>some ((((ops[j]?).bind (·.dst)).getD 0),b)
def OpX.of(ops:Array Oper)(o:Oper):OpX:=⟨o.dst,o.op,o.type,guardOf ops o.guard⟩
def gOk(ops:Array Oper):Bool:=ops.toList.all fun o=>match o.guard with
 |none=>true
 |some (j,_)=>((ops[j]?).bind (·.dst)).isSome
def flatOf(ops:Array Oper):List OpX:=ops.toList.map (OpX.of ops)
def flatD(ops:Array Oper):OT→OX
 | .nil=> .nil
 | .q i t=> .q (OpX.of ops (ops.getD i default)) (flatD ops t)
 | .e i m t=> .e (OpX.of ops (ops.getD i default)) m (flatD ops t)
 | .alt x y=> .alt (flatD ops x) (flatD ops y)
def otOk(n:Nat)(EM:List Nat):OT→Bool
 | .nil=>true
 | .q i t=>decide (i<n) && otOk n EM t
 | .e i m t=>decide (i<n) && (m == 1 || !EM.contains i) && otOk n EM t
 | .alt x y=>otOk n EM x && otOk n EM y
def emOf:OT→List Nat
 | .nil=>[]
 | .q i t=>i::emOf t
 | .e i m t=>if m == 1 then i::emOf t else emOf t
 | .alt x _=>emOf x
theorem Xad{ops:Array Oper}{o:Oper}{i:Nat}(hg:gOk ops=true)(ho:ops[i]?=some o)(a:Act):Region.wanted o (yielded ops a.tmps)=wantedT a (guardOf ops o.guard):=by
 unfold Region.wanted
 cases h:o.guard with
 |none=>rfl
 |some g=>
  obtain⟨j,b⟩:=g
  have:=List.all_eq_true.1 hg o (by
   have:=Array.mem_of_getElem? ho
   simpa using this)
  simp only [h] at this
  obtain⟨t,ht⟩:=Option.isSome_iff_exists.1 this
  simp only [guardOf,ht,Option.getD_some,wantedT,yielded,Option.bind_some]
  cases h2:a.tmps[t]? with
  |none=>rfl
  |some v=>cases v<;>rfl
theorem Xci{P:Program}{o:Oper}{a:Act}{w:World}{K:Act→World→Prop}{Q:Exit→Act→World→Prop}:
  Oper.wp P (⟨o.dst,o.op,o.type,"",#[],none⟩:Oper) a w K Q→Oper.wp P o a w K Q:=fun h=>h
section
variable{P:Program}{c:Cx}{R:Value→World→Prop}{k:List Item}
theorem Xj7{ops:Array Oper}(hg:gOk ops=true)(hs:noSel ops=true):∀(l:List Oper)(n:Nat),(∀j,l[j]?=ops[n+j]?)→∀(a:Act)(w:World),RO P c R (l.map (OpX.of ops)) k a w→
  Run P c R (.inRegion ops (List.range' n l.length)::k) a w
 | [],_,_,_,_,h=>Run.region_end h
 |o::l,n,hl,a,w,h=>by
  have h0:ops[n]?=some o:=by simpa using(hl 0).symm
  simp only [List.map_cons,RO] at h
  simp only [List.length_cons,List.range'_succ]
  have ih:=Xj7 hg hs l (n+1) (fun j=>by have:=hl (j+1);simpa [Nat.add_assoc,Nat.add_comm 1 j] using this)
  rw[show(OpX.of ops o).guard=guardOf ops o.guard from rfl, ← Xad hg h0] at h
  split at h
  ·rename_i hw
   rcases h with h | ⟨l',f,tmps,as1,body,w',hr,hR⟩
   ·exact Run.op h0 hw (Xbf hs n o h0) (Oper.wp_mono (fun a' w'=>ih a' w') (Xci h))
   ·exact Run.op_round h0 hw (Xbf hs n o h0) hr fun cl cs=>let ⟨v,w'',r,s⟩:=hR cl cs;⟨v,w'',ih _ _ r,s⟩
  ·rename_i hw
   exact Run.op_skip h0 (by simpa using hw) (ih _ _ h)
theorem X6n{ops:Array Oper}{C:World→Prop}{EM:List Nat}(hg:gOk ops=true):∀(t:OT),otOk ops.size EM t=true→∀(a:Act)(w:World),DO P c R C (flatD ops t) k a w→
  wpCan P ops C EM (fun a' w'=>Run P c R k a' w') t a w
 | .nil,_,_,_,h=>h
 | .q i t,hl,a,w,h=>by
  simp only [otOk,Bool.and_eq_true,decide_eq_true_eq] at hl
  obtain⟨hi,hl⟩:=hl
  have h0:ops[i]?=some (ops.getD i default):=by simp [hi]
  have ih:=X6n (C:=C) hg t hl
  have hgu:∀a:Act,wantedT a (OpX.of ops (ops.getD i default)).guard=Region.wanted (ops.getD i default) (yielded ops a.tmps):=fun a=>(Xad hg h0 a).symm
  simp only [flatD,DO] at h
  generalize ops.getD i default=od at h h0 hgu
  obtain⟨v,hv,hK⟩:=h
  rw[hgu a] at hv
  exact⟨_,v,h0,hv,ih _ _ hK⟩
 | .e i m t,hl,a,w,h=>by
  simp only [otOk,Bool.and_eq_true,decide_eq_true_eq] at hl
  obtain⟨⟨hi,hm⟩,hl⟩:=hl
  have h0:ops[i]?=some (ops.getD i default):=by simp [hi]
  have ih:=X6n (C:=C) hg t hl
  have hgu:∀a:Act,wantedT a (OpX.of ops (ops.getD i default)).guard=Region.wanted (ops.getD i default) (yielded ops a.tmps):=fun a=>(Xad hg h0 a).symm
  simp only [flatD] at h
  generalize ops.getD i default=od at h h0 hgu
  by_cases h1:m=1
  ·subst h1
   simp only [DO] at h
   simp only [wpCan,wpOp,h0]
   rw[hgu a] at h
   by_cases hw:Region.wanted od (yielded ops a.tmps)=true
   ·rw[if_pos hw] at h ⊢
    exact .inl (Oper.wp_mono (fun a' w' h'=>⟨fun _=>h'.1,ih _ _ h'.2⟩) (Xci h))
   ·rw[if_neg hw] at h ⊢
    exact⟨fun _=>h.1,ih _ _ h.2⟩
  ·have hn:i ∉ EM:=by
    have:(m == 1)=false:=by simpa using h1
    simpa [this] using hm
   rw[DO.eq_4 _ _ _ _ _ _ _ _ _ _ h1] at h
   simp only [wpCan,wpOp,h0]
   rw[hgu a] at h
   by_cases hw:Region.wanted od (yielded ops a.tmps)=true
   ·rw[if_pos hw] at h ⊢
    exact .inl (Oper.wp_mono (fun a' w' h'=>⟨fun he=>absurd he hn,ih _ _ h'⟩) (Xci h))
   ·rw[if_neg hw] at h ⊢
    exact⟨fun he=>absurd he hn,ih _ _ h⟩
 | .alt x y,hl,a,w,h=>by
  simp only [otOk,Bool.and_eq_true] at hl
  exact⟨X6n hg x hl.1 a w h.1,X6n hg y hl.2 a w h.2⟩
def drawOk(ops:Array Oper)(l:OT):Bool:=
 noSel ops && gOk ops && (l.depth == ops.size) && otOk ops.size (emOf l) l &&
 (canB .any ops (emOf l) l true (Array.replicate ops.size false))
variable{nt:Nat}{w0:World}{S0:List Nat}{df:List Deferred}{ρ ρ':Env}{Fs Fs':List Hp}{bl bl':Blks}{sl sl':List OwnS}
theorem Cov.region{id:Nat}{ops:Array Oper}(hg:(gOk ops && noSel ops)=true)(h:Cov nt w0 S0 df ρ Fs bl sl (RO P c R (flatOf ops) k)):
  Cov nt w0 S0 df ρ Fs bl sl (Run P c R (.code (.region id ops false)::k)):=fun a w hf hi=>by
 simp only [Bool.and_eq_true] at hg
 refine Run.region ?_
 have:=Xj7 (P:=P) (c:=c) (R:=R) (k:=k) hg.1 hg.2 ops.toList 0 (by simp) a w (h a w hf hi)
 simpa [List.range_eq_range'] using this
theorem Cov.region_end(h:Cov nt w0 S0 df ρ Fs bl sl (Run P c R k)):Cov nt w0 S0 df ρ Fs bl sl (RO P c R [] k):=h
def Cls(Fs:List Hp)(bl:Blks):World→Prop:=fun w=>(∀G∈Fs,HpIn G w)∧∀p∈bl,w.heap[p.1]?=some p.2
theorem Inv.drawn{w:World}(h:Inv w0 S0 Fs bl sl w):Inv w0 S0 Fs bl sl {w with drawn:=w.drawn+1}:=by
 obtain⟨m,k,n,mi,ap⟩:=h
 exact⟨⟨m.fs,m.own,fun s hs=>OwnS.same (m.slh s hs) fun _ _=>rfl⟩,⟨k.os,k.tape,k.output,k.size,k.block⟩,n,mi,ap⟩
theorem Cls.of_inv{w:World}{Fs0:List Hp}{bl0:Blks}(h:Inv w0 S0 Fs bl sl w)(h1:∀G∈Fs0,G∈Fs)(h2:∀p∈bl0,p∈bl):Cls Fs0 bl0 w:=
 ⟨fun G hG=>h.mem.fs G (h1 G hG),fun p hp=>h.mem.own p (h2 p hp)⟩
theorem Cov.draw{id:Nat}{ops:Array Oper}(l:OT)(Fs0:List Hp)(bl0:Blks)(hm:P.follows .mixedOrders=true)(hok:drawOk ops l=true)(h1:∀G∈Fs0,G∈Fs)(h2:∀p∈bl0,p∈bl)
  (h:Cov nt w0 S0 df ρ Fs bl sl (DO P c R (Cls Fs0 bl0) (flatD ops l) k)):
  Cov nt w0 S0 df ρ Fs bl sl (Run P c R (.code (.region id ops true)::k)):=fun a w hf hi=>by
 simp only [drawOk,Bool.and_eq_true,beq_iff_eq] at hok
 obtain⟨⟨⟨⟨h3,h4⟩,h5⟩,h6⟩,h7⟩:=hok
 exact Run.region_can hm h3 l _ (Cls Fs0 bl0) h5 h7 (Cls.of_inv hi.drawn h1 h2) (X6n h4 l h6 a _ (h a _ hf hi.drawn))
theorem Cov.alt{C:World→Prop}{x y:OX}(h1:Cov nt w0 S0 df ρ Fs bl sl (DO P c R C x k))(h2:Cov nt w0 S0 df ρ Fs bl sl (DO P c R C y k)):Cov nt w0 S0 df ρ Fs bl sl (DO P c R C (.alt x y) k):=
 fun a w hf hi=>⟨h1 a w hf hi,h2 a w hf hi⟩
theorem Cov.draw_end{C:World→Prop}(h:Cov nt w0 S0 df ρ Fs bl sl (Run P c R k)):Cov nt w0 S0 df ρ Fs bl sl (DO P c R C .nil k):=h
def Stp(P:Program)(K':Act→World→Prop)(o:OpX)(K:Act→World→Prop):Prop:=∀a w,Oper.wp P o.oper a w K Qf→K' a w
theorem Stp.ro{d:Option Tmp}{op:Op}{ty:TypeId}{os:List OpX}:Stp P (RO P c R (⟨d,op,ty,none⟩::os) k) ⟨d,op,ty,none⟩ (RO P c R os k):=fun a w h=>by
 simp only [RO,wantedT,if_true]
 exact .inl h
theorem Stp.d2{C:World→Prop}{d:Option Tmp}{op:Op}{ty:TypeId}{os:OX}:Stp P (DO P c R C (.e ⟨d,op,ty,none⟩ 2 os) k) ⟨d,op,ty,none⟩ (DO P c R C os k):=fun a w h=>by
 simp only [DO,wantedT,if_true]
 exact h
theorem Stp.d1{C:World→Prop}{d:Option Tmp}{op:Op}{ty:TypeId}{os:OX}:Stp P (DO P c R C (.e ⟨d,op,ty,none⟩ 1 os) k) ⟨d,op,ty,none⟩ (fun a w=>C w∧DO P c R C os k a w):=fun a w h=>by
 simp only [DO,wantedT,if_true]
 exact h
theorem Cov.g_on{t:Nat}{b:Bool}{d:Option Tmp}{op:Op}{ty:TypeId}{os:List OpX}(hg:ρ.lookup t=some (.bool b))(h:Cov nt w0 S0 df ρ Fs bl sl (RO P c R (⟨d,op,ty,none⟩::os) k)):
  Cov nt w0 S0 df ρ Fs bl sl (RO P c R (⟨d,op,ty,some (t,b)⟩::os) k):=fun a w hf hi=>by
 have h1:=h a w hf hi
 have h2:=hf.2.2 _ _ hg
 simp only [RO,wantedT,if_true,h2,beq_self_eq_true] at h1 ⊢
 exact h1
theorem Cov.g_off{t:Nat}{b b':Bool}{d:Nat}{op:Op}{ty:TypeId}{os:List OpX}(hg:ρ.lookup t=some (.bool b'))(hb:(b' == b)=false)(hd:Nat.blt d nt=true)(h:Cov nt w0 S0 df ((d,undef)::ρ) Fs bl sl (RO P c R os k)):
  Cov nt w0 S0 df ρ Fs bl sl (RO P c R (⟨some d,op,ty,some (t,b)⟩::os) k):=fun a w hf hi=>by
 have h2:=hf.2.2 _ _ hg
 simp only [RO,wantedT,h2,hb,Bool.false_eq_true,if_false]
 exact h _ w (hf.put hd _) hi
theorem Cov.dgq_on{C:World→Prop}{t:Nat}{b:Bool}{d:Option Tmp}{op:Op}{ty:TypeId}{os:OX}(hg:ρ.lookup t=some (.bool b))(h:Cov nt w0 S0 df ρ Fs bl sl (DO P c R C (.q ⟨d,op,ty,none⟩ os) k)):
  Cov nt w0 S0 df ρ Fs bl sl (DO P c R C (.q ⟨d,op,ty,some (t,b)⟩ os) k):=fun a w hf hi=>by
 have h1:=h a w hf hi
 have h2:=hf.2.2 _ _ hg
 simp only [DO,wantedT,h2,beq_self_eq_true] at h1 ⊢;exact h1
theorem Cov.dge_on{C:World→Prop}{m:Nat}{t:Nat}{b:Bool}{d:Option Tmp}{op:Op}{ty:TypeId}{os:OX}(hg:ρ.lookup t=some (.bool b))(h:Cov nt w0 S0 df ρ Fs bl sl (DO P c R C (.e ⟨d,op,ty,none⟩ m os) k)):
  Cov nt w0 S0 df ρ Fs bl sl (DO P c R C (.e ⟨d,op,ty,some (t,b)⟩ m os) k):=fun a w hf hi=>by
 have h1:=h a w hf hi
 have h2:=hf.2.2 _ _ hg
 match m,h1 with
 |0,h1=>simp only [DO,wantedT,if_true,h2,beq_self_eq_true] at h1 ⊢;exact h1
 |1,h1=>simp only [DO,wantedT,if_true,h2,beq_self_eq_true] at h1 ⊢;exact h1
 |m+2,h1=>simp only [DO,wantedT,if_true,h2,beq_self_eq_true] at h1 ⊢;exact h1
theorem Cov.dgq_off{C:World→Prop}{t:Nat}{b b':Bool}{d:Nat}{op:Op}{ty:TypeId}{os:OX}(hg:ρ.lookup t=some (.bool b'))(hb:(b' == b)=false)(hd:Nat.blt d nt=true)
  (h:Cov nt w0 S0 df ((d,undef)::ρ) Fs bl sl (DO P c R C os k)):
  Cov nt w0 S0 df ρ Fs bl sl (DO P c R C (.q ⟨some d,op,ty,some (t,b)⟩ os) k):=fun a w hf hi=>by
 have h3:=hf.2.2 _ _ hg
 have h4:=h _ w (hf.put hd _) hi
 simp only [DO,wantedT,h3,hb];exact⟨undef, .inr (by simp),h4⟩
end
end Go.Proofs.YtnfalgmfmiolbaaGreat
end

section
namespace Go.Proofs.YtnfalgmfmiolbaaGreat
open Go.RowKit
def QOp(P:Program)(ρ:Env)(Fs:List Hp)(bl:Blks)(sl:List OwnS)(op:Op)(ty:TypeId)(v:Value):Prop:=
 ∀nt df a w,Fits nt df ρ a→Mem Fs bl sl w→(execOp a.eval ⟨none,op,ty,"",#[],none⟩).run P w= .ok (.value v) w
section
variable{P:Program}{c:Cx}{R:Value→World→Prop}{nt:Nat}{w0:World}{S0:List Nat}{df:List Deferred}{ρ ρ':Env}{Fs Fs':List Hp}{bl bl':Blks}{sl sl':List OwnS}
 {K K':Act→World→Prop} {k:List Item} {ty:TypeId}
theorem Cov.q{d:Nat}{op:Op}{v:Value}(hs:Stp P K' ⟨some d,op,ty,none⟩ K)(h:QOp P ρ Fs bl sl op ty v)(hd:Nat.blt d nt=true)(hk:Cov nt w0 S0 df ((d,v)::ρ) Fs bl sl K):
  Cov nt w0 S0 df ρ Fs bl sl K':=fun a w hf hi=>by
 refine hs a w ?_
 have:=h nt df a w hf hi.mem
 unfold Oper.wp
 rw[show execOp a.eval (⟨some d,op,ty,none⟩:OpX).oper=execOp a.eval ⟨none,op,ty,"",#[],none⟩ from rfl,this]
 exact hk _ w (hf.put hd v) hi
theorem Cov.dq{d:Nat}{op:Op}{v:Value}{Fs0:List Hp}{bl0:Blks}{os:OX}(h:QOp P ρ Fs0 bl0 [] op ty v)(hd:Nat.blt d nt=true)
  (hk:Cov nt w0 S0 df ((d,v)::ρ) Fs bl sl (DO P c R (Cls Fs0 bl0) os k)):
  Cov nt w0 S0 df ρ Fs bl sl (DO P c R (Cls Fs0 bl0) (.q ⟨some d,op,ty,none⟩ os) k):=fun a w hf hi=>by
 simp only [DO]
 exact⟨v, .inl ⟨rfl,fun w' hw'=>h nt df a w' hf ⟨hw'.1,hw'.2,fun s h1=>by simp at h1⟩⟩,hk _ w (hf.put hd v) hi⟩
theorem QOp.of{op:Op}{v:Value}(h:∀(e:Operand→Value),(∀x u,ev ρ x=some u→e x=u)→∀w,Mem Fs bl sl w→(execOp e ⟨none,op,ty,"",#[],none⟩).run P w= .ok (.value v) w):QOp P ρ Fs bl sl op ty v:=
 fun _ _ a w hf hm=>h a.eval (fun _ _ hx=>X10 hf hx) w hm
theorem QOp.move{x:Operand}{v:Value}(hx:ev ρ x=some v):QOp P ρ Fs bl sl (.move x) ty v:= .of fun e he w _=>by simp [execOp,he x v hx]
theorem QOp.assign{x:Operand}{v:Value}(hx:ev ρ x=some v):QOp P ρ Fs bl sl (.assign x) ty v:= .of fun e he w _=>by simp [execOp,he x v hx]
theorem QOp.pick_t{x y z:Operand}{v:Value}(hx:ev ρ x=some (.bool true))(hy:ev ρ y=some v):QOp P ρ Fs bl sl (.pick x y z) ty v:= .of fun e he w _=>by
 simp [execOp,he x _ hx,he y _ hy,asBool]
theorem QOp.pick_f{x y z:Operand}{v:Value}(hx:ev ρ x=some (.bool false))(hz:ev ρ z=some v):QOp P ρ Fs bl sl (.pick x y z) ty v:= .of fun e he w _=>by
 simp [execOp,he x _ hx,he z _ hz,asBool]
theorem QOp.bin{op:BinOp}{t u:TypeId}{x y:Operand}{vx vy v:Value}(hx:ev ρ x=some vx)(hy:ev ρ y=some vy)
  (h:∀w,(do eqGuard op t x y vx vy;binOp op t vx vy:Sem Value).run P w= .ok v w):QOp P ρ Fs bl sl (.binOp op t x y u) ty v:= .of fun e he w _=>by
 have:=h w
 simp only [execOp,he x _ hx,he y _ hy]
 rw[Sem.run_bind,this]
 rfl
theorem Xh2{op:BinOp}{t:TypeId}{x y:Operand}{k k':IntKind}{m n:Int}(w:World):(eqGuard op t x y (.int k m) (.int k' n)).run P w= .ok () w:=by
 unfold eqGuard;cases op<;>rfl
theorem QOp.int{op:BinOp}{t u:TypeId}{x y:Operand}{k:IntKind}{m n:Int}{v:Value}(hx:ev ρ x=some (.int k m))(hy:ev ρ y=some (.int k n))
  (h:∀w,(binOp op t (.int k m) (.int k n)).run P w= .ok v w):QOp P ρ Fs bl sl (.binOp op t x y u) ty v:=
 .bin hx hy fun w=>by rw[Sem.run_bind,Xh2];exact h w
theorem QOp.add{t u:TypeId}{x y:Operand}{m n:Int}(hx:ev ρ x=some (.int .i64 m))(hy:ev ρ y=some (.int .i64 n))(hr: -9223372036854775808≤m+n∧m+n≤9223372036854775807):
  QOp P ρ Fs bl sl (.binOp .add t x y u) ty (.int .i64 (m+n)):= .int hx hy fun w=>by simp [binOp,Op.intArith,IntWalk.i64_in _ hr]
theorem QOp.sub{t u:TypeId}{x y:Operand}{m n:Int}(hx:ev ρ x=some (.int .i64 m))(hy:ev ρ y=some (.int .i64 n))(hr: -9223372036854775808≤m-n∧m-n≤9223372036854775807):
  QOp P ρ Fs bl sl (.binOp .sub t x y u) ty (.int .i64 (m-n)):= .int hx hy fun w=>by simp [binOp,Op.intArith,IntWalk.i64_in _ hr]
theorem QOp.mul{t u:TypeId}{x y:Operand}{m n:Int}(hx:ev ρ x=some (.int .i64 m))(hy:ev ρ y=some (.int .i64 n))(hr: -9223372036854775808≤m*n∧m*n≤9223372036854775807):
  QOp P ρ Fs bl sl (.binOp .mul t x y u) ty (.int .i64 (m*n)):= .int hx hy fun w=>by simp [binOp,Op.intArith,IntWalk.i64_in _ hr]
theorem QOp.addw{t u:TypeId}{x y:Operand}{k:IntKind}{m n:Int}(hx:ev ρ x=some (.int k m))(hy:ev ρ y=some (.int k n)):
  QOp P ρ Fs bl sl (.binOp .add t x y u) ty (.int k (k.wrap (m+n))):= .int hx hy fun w=>by simp only [binOp,Op.intArith,ne_eq,not_true_eq_false,if_false];rfl
theorem QOp.subw{t u:TypeId}{x y:Operand}{k:IntKind}{m n:Int}(hx:ev ρ x=some (.int k m))(hy:ev ρ y=some (.int k n)):
  QOp P ρ Fs bl sl (.binOp .sub t x y u) ty (.int k (k.wrap (m-n))):= .int hx hy fun w=>by simp only [binOp,Op.intArith,ne_eq,not_true_eq_false,if_false];rfl
theorem QOp.mulw{t u:TypeId}{x y:Operand}{k:IntKind}{m n:Int}(hx:ev ρ x=some (.int k m))(hy:ev ρ y=some (.int k n)):
  QOp P ρ Fs bl sl (.binOp .mul t x y u) ty (.int k (k.wrap (m*n))):= .int hx hy fun w=>by simp only [binOp,Op.intArith,ne_eq,not_true_eq_false,if_false];rfl
theorem QOp.quo{t u:TypeId}{x y:Operand}{m n:Int}(hx:ev ρ x=some (.int .i64 m))(hy:ev ρ y=some (.int .i64 n))(hr:0≤m∧m≤9223372036854775807∧1≤n):
  QOp P ρ Fs bl sl (.binOp .quo t x y u) ty (.int .i64 (m/n)):= .int hx hy fun w=>by
 have:n≠0:=by omega
 have:=IntWalk.i64_quo m n hr
 simp_all [binOp,Op.intDiv]
theorem QOp.rem{t u:TypeId}{x y:Operand}{k:IntKind}{m n:Int}(hx:ev ρ x=some (.int k m))(hy:ev ρ y=some (.int k n))(hr:0≤m∧1≤n):
  QOp P ρ Fs bl sl (.binOp .rem t x y u) ty (.int k (m%n)):= .int hx hy fun w=>by
 have:n≠0:=by omega
 have:=IntWalk.rem_in m n hr.1
 simp_all [binOp,Op.intDiv]
theorem QOp.remt{t u:TypeId}{x y:Operand}{k:IntKind}{m n:Int}(hx:ev ρ x=some (.int k m))(hy:ev ρ y=some (.int k n))(hr:n≠0):
  QOp P ρ Fs bl sl (.binOp .rem t x y u) ty (.int k (m.tmod n)):= .int hx hy fun w=>by simp [binOp,Op.intDiv,hr]
theorem QOp.lss{t u:TypeId}{x y:Operand}{k:IntKind}{m n:Int}(hx:ev ρ x=some (.int k m))(hy:ev ρ y=some (.int k n)):
  QOp P ρ Fs bl sl (.binOp .lss t x y u) ty (.bool (decide (m<n))):= .int hx hy fun w=>by simp only [binOp,Op.intCmp,ne_eq,not_true_eq_false,if_false];rfl
theorem QOp.leq{t u:TypeId}{x y:Operand}{k:IntKind}{m n:Int}(hx:ev ρ x=some (.int k m))(hy:ev ρ y=some (.int k n)):
  QOp P ρ Fs bl sl (.binOp .leq t x y u) ty (.bool (decide (m≤n))):= .int hx hy fun w=>by simp only [binOp,Op.intCmp,ne_eq,not_true_eq_false,if_false];rfl
theorem QOp.gtr{t u:TypeId}{x y:Operand}{k:IntKind}{m n:Int}(hx:ev ρ x=some (.int k m))(hy:ev ρ y=some (.int k n)):
  QOp P ρ Fs bl sl (.binOp .gtr t x y u) ty (.bool (decide (n<m))):= .int hx hy fun w=>by simp only [binOp,Op.intCmp,ne_eq,not_true_eq_false,if_false];rfl
theorem QOp.geq{t u:TypeId}{x y:Operand}{k:IntKind}{m n:Int}(hx:ev ρ x=some (.int k m))(hy:ev ρ y=some (.int k n)):
  QOp P ρ Fs bl sl (.binOp .geq t x y u) ty (.bool (decide (n≤m))):= .int hx hy fun w=>by simp only [binOp,Op.intCmp,ne_eq,not_true_eq_false,if_false];rfl
theorem QOp.eql{t u:TypeId}{x y:Operand}{k:IntKind}{m n:Int}(hx:ev ρ x=some (.int k m))(hy:ev ρ y=some (.int k n)):
  QOp P ρ Fs bl sl (.binOp .eql t x y u) ty (.bool (decide (m=n))):= .int hx hy fun w=>by simp only [binOp,Op.intCmp,ne_eq,not_true_eq_false,if_false];rfl
theorem QOp.neq{t u:TypeId}{x y:Operand}{k:IntKind}{m n:Int}(hx:ev ρ x=some (.int k m))(hy:ev ρ y=some (.int k n)):
  QOp P ρ Fs bl sl (.binOp .neq t x y u) ty (.bool (decide (m≠n))):= .int hx hy fun w=>by
 simp only [binOp,Op.intCmp,ne_eq,not_true_eq_false,if_false]
 show Result.ok (Value.bool (m !=n)) w=_
 congr 2
 rw[bne,decide_not];rfl
def bLt(x y:ByteArray):Bool:=Op.bytesLess x.toList y.toList
theorem QOp.not{t:TypeId}{x:Operand}{b:Bool}(hx:ev ρ x=some (.bool b)):QOp P ρ Fs bl sl (.unOp .not t x) ty (.bool (!b)):= .of fun e he w _=>by
 simp [execOp,he x _ hx,Op.unary]
theorem QOp.conv{s t:TypeId}{x:Operand}{k k':IntKind}{ks:TypeDesc}{n:Int}(hs:P.underlying s=some ks)(ht:P.underlying t=some (.int k'))(hx:ev ρ x=some (.int k n))(hr:k'.wrap n=n):
  QOp P ρ Fs bl sl (.convert s t x) ty (.int k' n):= .of fun e he w _=>by
 simp [execOp,he x _ hx,convert,run_underlying hs,run_underlying ht,Conv.intToInt,hr]
theorem QOp.convw{s t:TypeId}{x:Operand}{k k':IntKind}{ks:TypeDesc}{n:Int}(hs:P.underlying s=some ks)(ht:P.underlying t=some (.int k'))(hx:ev ρ x=some (.int k n)):
  QOp P ρ Fs bl sl (.convert s t x) ty (.int k' (k'.wrap n)):= .of fun e he w _=>by
 simp [execOp,he x _ hx,convert,run_underlying hs,run_underlying ht,Conv.intToInt]
theorem QOp.extract{x:Operand}{vs:List Value}{n:Nat}{v:Value}(hx:ev ρ x=some (.tuple vs.toArray))(hn:vs[n]?=some v):QOp P ρ Fs bl sl (.extract x n) ty v:= .of fun e he w _=>by
 simp [execOp,he x _ hx,Instr.extract,hn]
theorem QOp.nilCheck{x:Operand}{v:Value}(hx:ev ρ x=some v)(hv:(match v with | .pointer (some _)=>true | .func (.func _) _ _=>true |_=>false)=true):QOp P ρ Fs bl sl (.nilCheck x) ty v:= .of fun e he w _=>by
 simp only [execOp,he x _ hx]
 split<;>first | (simp at hv;done) |rfl
end
end Go.Proofs.YtnfalgmfmiolbaaGreat
end

section
namespace Go.Proofs.YtnfalgmfmiolbaaGreat
open Go.RowKit
def rcell(G:Hp)(b o:Nat):Option Value:=match G b with
 |some (.cells c _ _)=>c[o]?
 |_=>none
def Rp(G:Hp)(p:Value)(cs:List Value):Prop:=∃b o,p= .pointer (some ⟨b,o,none⟩)∧∀(j:Nat)(c:Value),cs[j]?=some c→rcell G b (o+j)=some c
def Sl(G:Hp)(sz:Nat)(v:Value)(xs:List (List Value)):Prop:=
 ∃a cap,v= .slice a xs.length cap∧xs.length≤cap∧(∀x∈xs,x.length=sz)∧
  (xs≠[]→∃b o,a=some ⟨b,o,none⟩∧∀(i:Nat)(x:List Value),xs[i]?=some x→∀(j:Nat)(c:Value),x[j]?=some c→rcell G b (o+i*sz+j)=some c)
def elemPtr(v:Value)(i sz:Nat):Value:=match v with
 | .slice (some a) _ _=> .pointer (some (a.add (i*sz)))
 |_=>undef
def ptrAdd(p:Value)(n:Nat):Value:=match p with
 | .pointer (some a)=> .pointer (some (a.add n))
 |v=>v
def sLen:Value→Option Nat
 | .slice _ n _=>some n
 |_=>none
def szOf(P:Program)(t:TypeId):Option Nat:=(P.info? t).map (·.size)
def byOf(P:Program)(t:TypeId):Option Nat:=(P.info? t).map (·.bytes)
def aggOf(P:Program)(t:TypeId):Option Bool:=(P.underlying t).map fun d=>match d with | .struct _ | .array _ _=>true |_=>false
def zOf(P:Program)(t:TypeId):Option (List Value):=((P.info? t).bind (·.zero)).map (·.cells.toList)
def fldOf(P:Program)(t:TypeId)(n:Nat):Option (Nat×TypeId):=match P.underlying t with
 |some (.struct fs)=>(fs[n]?).map fun f=>(f.offset,f.type)
 |_=>none
def plOf(P:Program)(t:TypeId):Option (List (Nat×Nat)):=match P.underlying t with
 |some (.struct fs)=>fs.toList.mapM fun f=>(szOf P f.type).map (f.offset, ·)
 |_=>none
def slOf(P:Program)(t:TypeId):Option TypeId:=match P.underlying t with
 |some (.slice e)=>some e
 |_=>none
structure TyI(P:Program)(t:TypeId)(agg:Bool)(sz bytes:Nat)(z:List Value):Prop where
 sz:szOf P t=some sz
 agg:aggOf P t=some agg
 by_:byOf P t=some bytes
 z:zOf P t=some z
theorem X1k{P:Program}{t:TypeId}{n:Nat}(h:szOf P t=some n)(w:World):(sizeOf t).run P w= .ok n w:=by
 unfold szOf at h
 cases hi:P.info? t with
 |none=>simp [hi] at h
 |some i=>simp [hi] at h;simp [sizeOf,typeInfo,hi,h]
theorem X3x{P:Program}{t:TypeId}{b:Bool}(h:aggOf P t=some b)(w:World):(isAgg t).run P w= .ok b w:=by
 unfold aggOf at h
 cases hi:P.underlying t with
 |none=>simp [hi] at h
 |some d=>
  simp only [hi,Option.map_some,Option.some.injEq] at h
  unfold isAgg
  rw[Sem.run_bind,run_underlying hi]
  subst h
  cases d<;>rfl
theorem Xdy{P:Program}{t:TypeId}{z:List Value}(h:zOf P t=some z)(w:World):∃v,(zeroValue t).run P w= .ok v w∧v.cells=z.toArray:=by
 unfold zOf at h
 cases hi:P.info? t with
 |none=>simp [hi] at h
 |some i=>
  cases hz:i.zero with
  |none=>simp [hi,hz] at h
  |some v=>
   simp only [hi,hz,Option.bind_some,Option.map_some,Option.some.injEq] at h
   exact⟨v,by simp [zeroValue,typeInfo,hi,hz],by rw[← h]⟩
theorem X1h(b o n:Nat):(⟨b,o,none⟩:Addr).add n=⟨b,o+n,none⟩:=by
 unfold Addr.add;split<;>simp_all
theorem HpIn.cell{G:Hp}{w:World}(h:HpIn G w){b o:Nat}{v:Value}(hc:rcell G b o=some v):w.cell? ⟨b,o,none⟩=some v:=by
 unfold rcell at hc
 cases hg:G b with
 |none=>rw[hg] at hc;cases hc
 |some ob=>
  rw[hg] at hc
  have:=h b ob hg
  unfold World.cell?
  simp only [this]
  cases ob<;>simp_all
theorem Sl.len{G:Hp}{sz:Nat}{v:Value}{xs:List (List Value)}(h:Sl G sz v xs):sLen v=some xs.length:=by
 obtain⟨a,cap,rfl,_⟩:=h;rfl
theorem Sl.elem{G:Hp}{sz:Nat}{v:Value}{xs:List (List Value)}(h:Sl G sz v xs){i:Nat}{x:List Value}(hi:xs[i]?=some x):Rp G (elemPtr v i sz) x:=by
 obtain⟨a,cap,rfl,_,_,hc⟩:=h
 have hne:xs≠[]:=by rintro rfl;simp at hi
 obtain⟨b,o,rfl,hc'⟩:=hc hne
 exact⟨b,o+i*sz,by simp [elemPtr,X1h],fun j c hj=>hc' i x hi j c hj⟩
theorem Rp.add{G:Hp}{p:Value}{cs:List Value}(h:Rp G p cs)(n:Nat):Rp G (ptrAdd p n) (cs.drop n):=by
 obtain⟨b,o,rfl,hc⟩:=h
 refine⟨b,o+n,by simp [ptrAdd,X1h],fun j c hj=>?_⟩
 have:=hc (n+j) c (by simpa [List.getElem?_drop] using hj)
 rwa [← Nat.add_assoc] at this
section
variable{P:Program}{c:Cx}{R:Value→World→Prop}{nt:Nat}{w0:World}{S0:List Nat}{df:List Deferred}{ρ ρ':Env}{Fs Fs':List Hp}{bl bl':Blks}{sl sl':List OwnS}
 {K K':Act→World→Prop} {k:List Item} {ty:TypeId}
theorem X89{s:Sem Value}{v:Value}{w w':World}(h:s.run P w= .ok v w'):(do let x ← s;pure (Next.value x):Sem Next).run P w= .ok (.value v) w':=by rw[Sem.run_bind,h];rfl
theorem Xm6{s:Sem Unit}{w w':World}(h:s.run P w= .ok () w'):(do s;pure Next.skip:Sem Next).run P w= .ok .skip w':=by rw[Sem.run_bind,h];rfl
theorem Xce{w:World}(hm:Mem Fs bl sl w){i b:Nat}{cs:List Value}{T:TypeId}{fz:Nat×Nat}(h:bl[i]?=some (b, .cells cs.toArray T fz))(o:Nat):w.cell? ⟨b,o,none⟩=cs[o]?:=by
 have:=hm.own _ (List.mem_of_getElem? h)
 unfold World.cell?
 simp only [this]
 simp
theorem Xbg{w:World}{b o:Nat}:∀(l:List Value)(i:Nat)(acc:Array Value),(∀(j:Nat)(v:Value),l[j]?=some v→w.cell? ⟨b,o+(i+j),none⟩=some v)→
  (loadCellsFrom ⟨b,o,none⟩ i l.length acc).run P w= .ok (acc++l.toArray) w
 | [],i,acc,_=>by simp [loadCellsFrom]
 |v::l,i,acc,h=>by
  have h0:=h 0 v (by simp)
  simp only [Nat.add_zero] at h0
  simp only [List.length_cons,loadCellsFrom,X1h]
  rw[Sem.run_bind]
  have:(load ⟨b,o+i,none⟩).run P w= .ok v w:=by simp [load,Sem.run,h0]
  rw[this]
  simp only [Result.andThen_ok]
  rw[Xbg l (i+1) (acc.push v) (fun j u hj=>by
   have:=h (j+1) u (by simpa using hj)
   rwa [show i+(j+1)=i+1+j from by omega] at this)]
  simp
theorem X5v{w:World}{t:TypeId}{b o:Nat}{v:Value}(ht:∀w,(isAgg t).run P w= .ok false w)(h:w.cell? ⟨b,o,none⟩=some v):(loadVar t ⟨b,o,none⟩).run P w= .ok v w:=by
 unfold loadVar
 rw[Sem.run_bind,ht]
 simp [load,Sem.run,h]
theorem X5w{w:World}{t:TypeId}{b o:Nat}{l:List Value}(ht:∀w,(isAgg t).run P w= .ok true w)(hn:∀w,(sizeOf t).run P w= .ok l.length w)(h:∀(j:Nat)(v:Value),l[j]?=some v→w.cell? ⟨b,o+j,none⟩=some v):
  (loadVar t ⟨b,o,none⟩).run P w= .ok (.agg l.toArray) w:=by
 unfold loadVar
 rw[Sem.run_bind,ht]
 simp only [Result.andThen_ok,if_true]
 rw[Sem.run_bind,hn]
 simp only [Result.andThen_ok]
 rw[Sem.run_bind]
 have:=Xbg (P:=P) (w:=w) (b:=b) (o:=o) l 0 #[] (fun j v hj=>by simpa using h j v hj)
 unfold loadCells
 rw[this]
 simp
theorem QOp.load_own(i:Nat){t:TypeId}{x:Operand}{b o:Nat}{cs:List Value}{T:TypeId}{fz:Nat×Nat}{v:Value}(hx:ev ρ x=some (.pointer (some ⟨b,o,none⟩)))
  (h:bl[i]?=some (b, .cells cs.toArray T fz)) {sz bytes:Nat} {z:List Value} (ht:TyI P t false sz bytes z) (hv:cs[o]?=some v):QOp P ρ Fs bl sl (.load t x) ty v:= .of fun e he w hm=>by
 have:=Xce hm h o
 refine X89 (s:=Instr.loadAt t (e x)) ?_
 rw[he x _ hx]
 exact X5v (X3x ht.agg) (this.trans hv)
theorem QOp.load_own_a(i:Nat)(l:List Value){t:TypeId}{x:Operand}{b o:Nat}{cs:List Value}{T:TypeId}{fz:Nat×Nat}(hx:ev ρ x=some (.pointer (some ⟨b,o,none⟩)))
  (h:bl[i]?=some (b, .cells cs.toArray T fz)) {bytes:Nat} {z:List Value} (ht:TyI P t true l.length bytes z) (hv:(cs.drop o).take l.length=l):QOp P ρ Fs bl sl (.load t x) ty (.agg l.toArray):= .of fun e he w hm=>by
 have h2:=Xce hm h
 have h3:∀(j:Nat)(v:Value),l[j]?=some v→w.cell? ⟨b,o+j,none⟩=some v:=fun j v hj=>by
  rw[h2, ← hj, ← hv]
  have:j<l.length:=by rcases Nat.lt_or_ge j l.length with h |h;exact h;rw[List.getElem?_eq_none h] at hj;cases hj
  simp [List.getElem?_drop,this]
 refine X89 (s:=Instr.loadAt t (e x)) ?_
 rw[he x _ hx]
 exact X5w (X3x ht.agg) (X1k ht.sz) h3
theorem QOp.load_rp{G:Hp}{cs:List Value}{t:TypeId}{x:Operand}{p v:Value}{sz bytes:Nat}{z:List Value}(hp:Rp G p cs)(hG:G∈Fs)(hx:ev ρ x=some p)(ht:TyI P t false sz bytes z)(hv:cs[0]?=some v):
  QOp P ρ Fs bl sl (.load t x) ty v:= .of fun e he w hm=>by
 obtain⟨b,o,rfl,hc⟩:=hp
 refine X89 (s:=Instr.loadAt t (e x)) ?_
 rw[he x _ hx]
 exact X5v (X3x ht.agg) ((hm.fs G hG).cell (hc 0 v hv))
theorem QOp.load_rp_a(l:List Value){G:Hp}{cs:List Value}{t:TypeId}{x:Operand}{p:Value}{bytes:Nat}{z:List Value}(hp:Rp G p cs)(hG:G∈Fs)(hx:ev ρ x=some p)(ht:TyI P t true l.length bytes z)(hv:cs.take l.length=l):
  QOp P ρ Fs bl sl (.load t x) ty (.agg l.toArray):= .of fun e he w hm=>by
 obtain⟨b,o,rfl,hc⟩:=hp
 refine X89 (s:=Instr.loadAt t (e x)) ?_
 rw[he x _ hx]
 refine X5w (X3x ht.agg) (X1k ht.sz) fun j v hj=>(hm.fs G hG).cell (hc j v ?_)
 have hl:j<l.length:=by rcases Nat.lt_or_ge j l.length with h |h;exact h;rw[List.getElem?_eq_none h] at hj;cases hj
 rw[← hv,List.getElem?_take_of_lt hl] at hj
 exact hj
theorem Xcj{w:World}{s:TypeId}{n b o off m:Nat}{ft:TypeId}(hf:fldOf P s n=some (off,ft))(hz:szOf P ft=some (m+1)):
  (Instr.fieldAt s (.pointer (some ⟨b,o,none⟩)) n).run P w= .ok (.pointer (some ⟨b,o+off,none⟩)) w:=by
 unfold fldOf at hf
 split at hf
 ·rename_i fs hu
  cases hn:fs[n]? with
  |none=>simp [hn] at hf
  |some f=>
   simp only [hn,Option.map_some,Option.some.injEq,Prod.mk.injEq] at hf
   obtain⟨rfl,rfl⟩:=hf
   unfold Instr.fieldAt
   rw[Sem.run_bind,run_underlying hu]
   simp only [Result.andThen_ok,hn]
   simp only [Instr.sureAddr,Sem.run_bind,Sem.run_pure,Result.andThen_ok,fieldPlace,X1k hz,X1h]
   simp
 ·cases hf
theorem QOp.fieldAddr(o':Nat){s:TypeId}{x:Operand}{n b o off m:Nat}{ft:TypeId}(hx:ev ρ x=some (.pointer (some ⟨b,o,none⟩)))(hf:fldOf P s n=some (off,ft))(hz:szOf P ft=some (m+1))(ho:o+off=o'):
  QOp P ρ Fs bl sl (.fieldAddr s x n) ty (.pointer (some ⟨b,o',none⟩)):= .of fun e he w _=>by
 refine X89 (s:=Instr.fieldAt s (e x) n) ?_
 rw[he x _ hx, ← ho]
 exact Xcj hf hz
theorem QOp.fieldAddr_rp{G:Hp}{cs:List Value}{s:TypeId}{x:Operand}{p:Value}{n off m:Nat}{ft:TypeId}(hp:Rp G p cs)(hx:ev ρ x=some p)(hf:fldOf P s n=some (off,ft))(hz:szOf P ft=some (m+1)):
  QOp P ρ Fs bl sl (.fieldAddr s x n) ty (ptrAdd p off):= .of fun e he w _=>by
 obtain⟨b,o,rfl,_⟩:=hp
 refine X89 (s:=Instr.fieldAt s (e x) n) ?_
 rw[he x _ hx]
 simp only [ptrAdd,X1h]
 exact Xcj hf hz
theorem X5x{t el:TypeId}(h:slOf P t=some el):P.underlying t=some (.slice el):=by
 unfold slOf at h
 split at h
 ·rename_i e he;cases h;exact he
 ·cases h
theorem Xck{w:World}{t el:TypeId}{a:Addr}{len cap sz:Nat}{k:IntKind}{n:Int}(ht:slOf P t=some el)(hz:szOf P el=some sz)(h0:0≤n)(h1:n<(len:Int)):
  (Instr.indexAt t (.slice (some a) len cap) (.int k n)).run P w= .ok (.pointer (some (a.add (n.toNat*sz)))) w:=by
 have hu:=X5x ht
 unfold Instr.indexAt
 simp only [asIntOf,Sem.run_bind,Sem.run_pure,Result.andThen_ok,run_underlying hu]
 simp [h0,h1,X1k hz]
theorem QOp.indexAddr{G:Hp}{sz:Nat}{v:Value}{xs:List (List Value)}{t el:TypeId}{x i:Operand}{k:IntKind}{n:Int}(hs:Sl G sz v xs)(hx:ev ρ x=some v)(hi:ev ρ i=some (.int k n))(ht:slOf P t=some el)(hz:szOf P el=some sz)
  (h0:0≤n) (h1:n<(xs.length:Int)):QOp P ρ Fs bl sl (.indexAddr t x i) ty (elemPtr v n.toNat sz):= .of fun e he w _=>by
 obtain⟨a,cap,rfl,_,_,hc⟩:=hs
 have hne:xs≠[]:=by rintro rfl;simp at h1;omega
 obtain⟨b,o,rfl,_⟩:=hc hne
 refine X89 (s:=Instr.indexAt t (e x) (e i)) ?_
 rw[he x _ hx,he i _ hi]
 exact Xck ht hz h0 h1
theorem X6o{w:World}{e:Operand→Value}{b:Builtin}{args:Array Operand}{ts:Array TypeId}{dst:Option Tmp}{r:Result Next}
  (h:(builtin b ts ty (args.map fun | .const _=>true |_=>false) (args.map e)).run P w=r):(execOp e ⟨dst, .call ⟨.builtin b,args,ts⟩,ty,"",#[],none⟩).run P w=r:=by
 simp only [execOp,resolve,Sem.run_bind,Sem.run_pure,Result.andThen_ok,invoke]
 exact h
theorem QOp.len_sl{t el:TypeId}{x:Operand}{v:Value}{n:Nat}(hx:ev ρ x=some v)(hl:sLen v=some n)(ht:slOf P t=some el):QOp P ρ Fs bl sl (.call ⟨.builtin .len,#[x],#[t]⟩) ty (.int .i64 n):= .of fun e he w _=>by
 refine X6o (X89 ?_)
 have hu:=X5x ht
 cases v<;>simp [sLen] at hl
 simp [Builtin.len_,he x _ hx,run_underlying hu,goInt,hl]
theorem QOp.max2{ts:Array TypeId}{x y:Operand}{k:IntKind}{m n:Int}(hx:ev ρ x=some (.int k m))(hy:ev ρ y=some (.int k n)):QOp P ρ Fs bl sl (.call ⟨.builtin .max,#[x,y],ts⟩) ty (.int k (max m n)):= .of fun e he w _=>by
 refine X6o (X89 ?_)
 simp [Builtin.max_,he x _ hx,he y _ hy,Builtin.max2,Int.max_def]
 split<;>split<;>omega
theorem Xcl{w:World}{isSlice:Bool}{len cap:Nat}{lo hi:Option Value}{l h:Nat}(hl:lo=none∧l=0∨∃k n,lo=some (.int k n)∧0≤n∧n.toNat=l)(hh:hi=none∧h=len∨∃k n,hi=some (.int k n)∧0≤n∧n.toNat=h)
  (h1:l≤h) (h2:h≤cap):(Instr.sliceBounds isSlice len cap lo hi none).run P w= .ok (l,h,cap) w:=by
 unfold Instr.sliceBounds
 rcases hl with ⟨rfl,rfl⟩ | ⟨k,n,rfl,hn,rfl⟩<;>rcases hh with ⟨rfl,rfl⟩ | ⟨k',n',rfl,hn',rfl⟩
 ·simp
 ·have:n'≤(cap:Int):=by omega
  simp [Instr.sliceBound,asIntOf,hn',this]
 ·have:n≤(h:Int):=by omega
  simp [Instr.sliceBound,asIntOf,hn,this]
 ·have:n'≤(cap:Int):=by omega
  have h3:n≤((n'.toNat:Nat):Int):=by omega
  simp [Instr.sliceBound,asIntOf,hn,hn',this]
  omega
end
end Go.Proofs.YtnfalgmfmiolbaaGreat
end

section
namespace Go.Proofs.YtnfalgmfmiolbaaGreat
open Go.RowKit
def subV(v:Value)(l h sz:Nat):Value:=match v with
 | .slice a _ cap=> .slice (if cap=l then a else a.map (·.add (l*sz))) (h-l) (cap-l)
 |_=>undef
theorem Sl.sub{G:Hp}{sz:Nat}{v:Value}{xs:List (List Value)}(h:Sl G sz v xs){l m:Nat}(h1:l≤m)(h2:m≤xs.length):Sl G sz (subV v l m sz) ((xs.drop l).take (m-l)):=by
 obtain⟨a,cap,rfl,hcap,hsz,hc⟩:=h
 have hlen:((xs.drop l).take (m-l)).length=m-l:=by simp;omega
 refine⟨if cap=l then a else a.map (·.add (l*sz)),cap-l,by simp [subV,hlen],by rw[hlen];omega,fun x hx=>hsz x (List.mem_of_mem_drop (List.mem_of_mem_take hx)),fun hne=>?_⟩
 have hml:l<m:=by
  rcases Nat.lt_or_ge l m with h |h
  ·exact h
  ·exfalso;apply hne;rw[List.eq_nil_iff_length_eq_zero,hlen];omega
 have hne':xs≠[]:=by rintro rfl;simp at h2;omega
 obtain⟨b,o,rfl,hc'⟩:=hc hne'
 refine⟨b,o+l*sz,?_,fun i x hi j c hj=>?_⟩
 ·rw[if_neg (by omega)];simp [X1h]
 ·have hi':xs[l+i]?=some x:=by
   have:i<m-l:=by
    rcases Nat.lt_or_ge i (m-l) with h |h
    ·exact h
    ·rw[List.getElem?_eq_none (by rw[hlen];exact h)] at hi;cases hi
   rw[List.getElem?_take_of_lt this,List.getElem?_drop] at hi
   exact hi
  have:=hc' (l+i) x hi' j c hj
  rwa [Nat.add_mul, ← Nat.add_assoc] at this
section
variable{P:Program}{c:Cx}{R:Value→World→Prop}{nt:Nat}{w0:World}{S0:List Nat}{df:List Deferred}{ρ ρ':Env}{Fs Fs':List Hp}{bl bl':Blks}{sl sl':List OwnS}
 {K K':Act→World→Prop} {k:List Item} {ty:TypeId}
inductive Bnd(ρ:Env)(dflt:Nat):Option Operand→Nat→Prop
 |no:Bnd ρ dflt none dflt
 |yes {x:Operand} {k:IntKind} {n:Int} {m:Nat} (hx:ev ρ x=some (.int k n)) (h0:0≤n) (hm:n.toNat=m):Bnd ρ dflt (some x) m
theorem Bnd.spec{ρ:Env}{d m:Nat}{o:Option Operand}(h:Bnd ρ d o m)(e:Operand→Value)(he:∀x u,ev ρ x=some u→e x=u):o.map e=none∧m=d∨∃k n,o.map e=some (.int k n)∧0≤n∧n.toNat=m:=by
 cases h with
 |no=>exact .inl ⟨rfl,rfl⟩
 |yes hx h0 hm=>exact .inr ⟨_,_,by rw[Option.map_some,he _ _ hx],h0,hm⟩
theorem QOp.slice_sl{sz:Nat}{v:Value}{len cap:Nat}{a:Option Addr}{t el:TypeId}{x:Operand}{lo hi:Option Operand}{l h:Nat}(hx:ev ρ x=some v)(hv:v= .slice a len cap)(ht:slOf P t=some el)(hz:szOf P el=some sz)
  (hl:Bnd ρ 0 lo l) (hh:Bnd ρ len hi h) (h1:l≤h) (h2:h≤cap):QOp P ρ Fs bl sl (.slice t x lo hi none) ty (subV v l h sz):= .of fun e he w _=>by
 subst hv
 have hu:=X5x ht
 refine X89 (s:=Instr.sliceAt t (e x) (lo.map e) (hi.map e) none) ?_
 rw[he x _ hx]
 unfold Instr.sliceAt
 rw[Sem.run_bind,run_underlying hu]
 simp only [Result.andThen_ok]
 unfold Instr.slice
 rw[Sem.run_bind,run_underlying hu]
 simp only [Result.andThen_ok]
 rw[Sem.run_bind,Xcl (hl.spec e he) (hh.spec e he) h1 h2]
 simp only [Result.andThen_ok]
 rw[Sem.run_bind,X1k hz]
 rfl
theorem QOp.slice{G:Hp}{sz:Nat}{v:Value}{xs:List (List Value)}{t el:TypeId}{x:Operand}{lo hi:Option Operand}{l h:Nat}(hs:Sl G sz v xs)(hx:ev ρ x=some v)(ht:slOf P t=some el)(hz:szOf P el=some sz)
  (hl:Bnd ρ 0 lo l) (hh:Bnd ρ xs.length hi h) (h1:l≤h) (h2:h≤xs.length):QOp P ρ Fs bl sl (.slice t x lo hi none) ty (subV v l h sz):=by
 obtain⟨a,cap,e,hcap,_⟩:=hs
 exact .slice_sl hx e ht hz hl hh h1 (by omega)
def fillL(place:List (Nat×Nat)):List Value→List (Nat×Value)→Option (List Value)
 |cells,[]=>some cells
 |cells,(i,v)::rest=>match place[i]? with
  |none=>none
  |some (off,size)=>if v.cells.size≠size || off+v.cells.size>cells.length then none else fillL place (cells.take off++v.cells.toList++cells.drop (off+v.cells.size)) rest
theorem Xdz:∀(l:List Value)(off j:Nat)(cells:Array Value),off+j+l.length≤cells.size→
  ((l.zipIdx j).foldl (fun cs (c,j)=>cs.setIfInBounds (off+j) c) cells).toList=cells.toList.take (off+j)++l++cells.toList.drop (off+j+l.length)
 | [],off,j,cells,_=>by simp
 |v::l,off,j,cells,h=>by
  simp only [List.length_cons] at h
  simp only [List.zipIdx_cons,List.foldl_cons]
  rw[Xdz l off (j+1) _ (by simp;omega)]
  simp only [Array.toList_setIfInBounds,List.length_cons]
  rw[show off+(j+1)=off+j+1 from by omega,show off+j+1+l.length=off+j+(l.length+1) from by omega]
  rw[List.drop_set_of_lt (by omega)]
  rw[List.take_set,List.take_add_one]
  rw[List.set_append_right _ _ (by simp;omega)]
  simp only [List.length_take,Array.length_toList]
  rw[Nat.min_eq_left (by omega),Nat.sub_self]
  have:cells.toList[off+j]?=some (cells.toList[off+j]'(by simp;omega)):=List.getElem?_eq_getElem _
  rw[this]
  simp
theorem Xh3(place:Nat→Option (Nat×Nat))(pl:List (Nat×Nat))(hp:∀i,place i=pl[i]?):∀(parts:List (Nat×Value))(cells:List Value),Instr.fill place cells.toArray parts=(fillL pl cells parts).map List.toArray
 | [],cells=>by simp [Instr.fill,fillL]
 | (i,v)::rest,cells=>by
  simp only [Instr.fill,fillL,hp i]
  cases hq:pl[i]? with
  |none=>simp
  |some q=>
   obtain⟨off,size⟩:=q
   simp only [List.size_toArray]
   split
   ·simp
   ·rename_i hh
    simp only [Bool.or_eq_true,decide_eq_true_eq,not_or,ne_eq,Decidable.not_not] at hh
    rw[← Xh3 place pl hp rest]
    congr 1
    have:=Xdz v.cells.toList off 0 cells.toArray (by simp;omega)
    rw[← Array.toList_inj]
    rw[← Array.foldl_toList]
    simpa using this
theorem Xae{w:World}:∀(fs:List Field)(pl:List (Nat×Nat)),fs.mapM (fun f=>(szOf P f.type).map (f.offset, ·))=some pl→(fs.mapM (fun f=>do pure (f.offset, ← sizeOf f.type):Field→Sem (Nat×Nat))).run P w= .ok pl w
 | [],pl,h=>by simp at h;subst h;simp
 |f::fs,pl,h=>by
  simp only [List.mapM_cons,Option.bind_eq_bind,Option.bind_eq_some_iff,Option.map_eq_some_iff] at h
  obtain⟨q,⟨n,hn,rfl⟩,r,hr,hq⟩:=h
  simp only [Option.pure_def,Option.some.injEq] at hq
  subst hq
  simp only [List.mapM_cons]
  rw[Sem.run_bind,Sem.run_bind,X1k hn]
  simp only [Result.andThen_ok,Sem.run_pure]
  rw[Sem.run_bind,Xae fs r hr]
  simp
theorem Xh4{ρ:Env}{e:Operand→Value}(he:∀x u,ev ρ x=some u→e x=u):∀(ps:List (Nat×Operand))(vs:List (Nat×Value)),ps.map (fun p=>(ev ρ p.2).map (p.1, ·))=vs.map some→ps.map (fun p=>(p.1,e p.2))=vs
 | [],vs,h=>by cases vs<;>simp at h ⊢
 |p::ps,vs,h=>by
  cases vs with
  |nil=>simp at h
  |cons v vs=>
   simp only [List.map_cons,List.cons.injEq,Option.map_eq_some_iff] at h
   obtain⟨⟨u,hu,hv⟩,h2⟩:=h
   simp only [List.map_cons,he _ _ hu,hv,Xh4 he ps vs h2]
theorem QOp.build(res:List Value)(vs:List (Nat×Value)){t:TypeId}{ps:Array (Nat×Operand)}{pl:List (Nat×Nat)}{agg:Bool}{sz bytes:Nat}{z:List Value}(ht:TyI P t agg sz bytes z)(hpl:plOf P t=some pl)
  (hv:ps.toList.map (fun p=>(ev ρ p.2).map (p.1, ·))=vs.map some) (hres:fillL pl z vs=some res):QOp P ρ Fs bl sl (.build t ps) ty (.agg res.toArray):= .of fun e he w _=>by
 have hps:(ps.map fun p=>(p.1,e p.2))=vs.toArray:=by
  rw[← Array.toList_inj];simpa using Xh4 he _ _ hv
 refine X89 (s:=Instr.build t (ps.map fun(i,x)=>(i,e x))) ?_
 rw[show(ps.map fun(i,x)=>(i,e x))=vs.toArray from hps]
 unfold plOf at hpl
 split at hpl
 ·rename_i fs hu
  obtain⟨zv,hz1,hz2⟩:=Xdy ht.z w
  unfold Instr.build
  rw[Sem.run_bind,hz1]
  simp only [Result.andThen_ok]
  rw[Sem.run_bind,run_underlying hu]
  simp only [Result.andThen_ok]
  rw[Sem.run_bind]
  have:(fs.mapM (fun f=>do pure (f.offset, ← sizeOf f.type):Field→Sem (Nat×Nat))).run P w= .ok pl.toArray w:=by
   rw[← Array.toArray_toList (xs:=fs),List.mapM_toArray]
   have:=Xae (w:=w) fs.toList pl hpl
   rw[map_eq_pure_bind,Sem.run_bind,this]
   rfl
  rw[this]
  simp only [Result.andThen_ok,hz2]
  rw[Xh3 _ pl (fun i=>by simp) vs z,hres]
  rfl
 ·cases hpl
theorem X1{α:Type}{l l0:List α}(is:List Nat)(h:is.map (l[·]?)=l0.map some):∀p∈l0,p∈l:=by
 intro p hp
 have:some p∈is.map (l[·]?):=by rw[h];exact List.mem_map.2 ⟨p,hp,rfl⟩
 obtain⟨i,_,hi⟩:=List.mem_map.1 this
 exact List.mem_of_getElem? hi
def intsOk(P:Program)(fs:List Field):Bool:=fs.zipIdx.all fun(f,i)=>f.name != "_" && f.offset == i && (match P.underlying f.type with |some (.int .i64)=>true |_=>false)
theorem Xdo{w:World}(d:Nat):∀(fs:List Field)(n:Nat)(xs ys:List Int),(fs.zipIdx n).all (fun(f,i)=>f.name != "_" && f.offset == i && (match P.underlying f.type with |some (.int .i64)=>true |_=>false))=true→
  xs.length=n+fs.length→ys.length=n+fs.length→
  (Op.eqFields (d+1) (xs.map (Value.int .i64)).toArray (ys.map (Value.int .i64)).toArray fs).run P w= .ok (decide (xs.drop n=ys.drop n)) w
 | [],n,xs,ys,_,h1,h2=>by
  simp at h1 h2
  simp [Op.eqFields,List.drop_of_length_le,h1,h2]
 |f::fs,n,xs,ys,h,h1,h2=>by
  simp only [List.zipIdx_cons,List.all_cons,Bool.and_eq_true,bne_iff_ne,ne_eq,beq_iff_eq] at h
  obtain⟨⟨⟨hn,ho⟩,ht⟩,hr⟩:=h
  simp only [List.length_cons] at h1 h2
  have hu:P.underlying f.type=some (.int .i64):=by
   revert ht
   split
   ·intro _;assumption
   ·intro h;cases h
  have ha:aggOf P f.type=some false:=by simp [aggOf,hu]
  have hx:∀(l:List Int),l.length=n+(fs.length+1)→(part f.type (l.map (Value.int .i64)).toArray f.offset).run P w= .ok (.int .i64 (l.getD n 0)) w:=fun l hl=>by
   unfold part
   rw[Sem.run_bind,X3x ha]
   have:n<l.length:=by omega
   simp [ho,this,List.getD_eq_getElem?_getD]
  simp only [Op.eqFields,ne_eq,hn,not_false_eq_true,if_true]
  rw[Sem.run_bind,hx xs (by omega)]
  simp only [Result.andThen_ok]
  rw[Sem.run_bind,hx ys (by omega)]
  simp only [Result.andThen_ok]
  rw[Sem.run_bind,run_equalIn_int w d f.type .i64 .i64 _ _ hu]
  simp only [Result.andThen_ok]
  have e1:xs.drop n=xs.getD n 0::xs.drop (n+1):=by
   rw[List.getD_eq_getElem?_getD,List.getElem?_eq_getElem (by omega)];simp
  have e2:ys.drop n=ys.getD n 0::ys.drop (n+1):=by
   rw[List.getD_eq_getElem?_getD,List.getElem?_eq_getElem (by omega)];simp
  have ih:=Xdo (w:=w) d fs (n+1) xs ys hr (by omega) (by omega)
  by_cases he:xs.getD n 0=ys.getD n 0
  ·simp only [he,beq_self_eq_true,Bool.not_true,Bool.false_eq_true,if_false]
   rw[ih,e1,e2,he]
   simp
  ·have:(xs.getD n 0 == ys.getD n 0)=false:=by simpa using he
   simp only [this,Bool.not_false,if_true,Sem.run_pure]
   rw[e1,e2]
   have:¬(xs.getD n 0::xs.drop (n+1)=ys.getD n 0::ys.drop (n+1)):=fun h=>he (List.cons.inj h).1
   rw[decide_eq_false this]
theorem Xd7{w:World}{t:TypeId}{fs:Array Field}{xs ys:List Int}(ht:P.underlying t=some (.struct fs))(hok:intsOk P fs.toList=true)(hp:P.stoodInHeld t=false)(h1:xs.length=fs.size)(h2:ys.length=fs.size):
  (Op.equal t (.agg (xs.map (Value.int .i64)).toArray) (.agg (ys.map (Value.int .i64)).toArray)).run P w= .ok (decide (xs=ys)) w:=by
 have hf:P.fieldsOf t=fs:=by simp [Program.fieldsOf,ht]
 show(Op.equalIn (9999+1) t _ _).run P w=_
 rw[run_equalIn_struct w 9999 t _ _ (by rw[hf];exact ht) hp,hf]
 have:=Xdo (P:=P) (w:=w) 9998 fs.toList 0 xs ys (by simpa [intsOk] using hok) (by simpa using h1) (by simpa using h2)
 simpa using this
theorem Xh5{t:TypeId}{x y:Operand}{a b:Array Value}{op:BinOp}(w:World)(hg:P.eqGuardType P.depth t=false):(eqGuard op t x y (.agg a) (.agg b)).run P w= .ok () w:=by
 unfold eqGuard
 cases op<;>first
  |rfl
  |simp [hg]
theorem QOp.neq_i(l1 l2:List Int){t u:TypeId}{x y:Operand}{fs:Array Field}(ht:P.underlying t=some (.struct fs))(hok:intsOk P fs.toList=true)(hp:P.stoodInHeld t=false)(hg:P.eqGuardType P.depth t=false)(h1:l1.length=fs.size)(h2:l2.length=fs.size)
  (hx:ev ρ x=some (.agg (l1.map (Value.int .i64)).toArray)) (hy:ev ρ y=some (.agg (l2.map (Value.int .i64)).toArray)):QOp P ρ Fs bl sl (.binOp .neq t x y u) ty (.bool (decide (l1≠l2))):= .bin hx hy fun w=>by
 rw[Sem.run_bind,Xh5 w hg]
 simp only [Result.andThen_ok,binOp]
 rw[Sem.run_bind,Xd7 ht hok hp h1 h2]
 simp only [Result.andThen_ok,Sem.run_pure,decide_not]
end
end Go.Proofs.YtnfalgmfmiolbaaGreat
end

section
namespace Go.Proofs.YtnfalgmfmiolbaaGreat
open Go.RowKit
def Fresh(w:World)(G:Hp):Prop:=∀b o,G b=some o→w.heap.size≤b
def single(b:Nat)(o:Obj):Hp:=fun x=>if x=b then some o else none
theorem X6p{α:Type}:∀(l:List α)(i:Nat)(x:α),l[i]?=some x→l.Perm (x::l.eraseIdx i)
 | [],i,x,h=>by simp at h
 |y::l,0,x,h=>by simp at h;subst h;simp
 |y::l,i+1,x,h=>by
  simp only [List.getElem?_cons_succ] at h
  simp only [List.eraseIdx_cons_succ]
  exact((X6p l i x h).cons y).trans (List.Perm.swap x y _)
theorem Xcm{α β:Type}(f:α→List β){l l':List α}(h:l.Sublist l'):(l.flatMap f).Sublist (l'.flatMap f):=by
 induction h with
 |slnil=>exact List.Sublist.refl _
 |cons a _ ih=>rw[List.flatMap_cons];exact ih.trans (List.sublist_append_right _ _)
 |cons_cons a _ ih=>rw[List.flatMap_cons,List.flatMap_cons];exact(List.Sublist.refl _).append ih
section
variable{w0:World}{S0:List Nat}{Fs Fs':List Hp}{bl bl':Blks}{sl sl':List OwnS}{w w':World}
theorem Xbu(h:Mem Fs bl sl w){b:Nat}(hb:b∈blks bl sl):b<w.heap.size:=by
 rcases List.mem_append.1 hb with hb |hb
 ·obtain⟨p,hp,rfl⟩:=List.mem_map.1 hb
  exact Xch (h.own p hp)
 ·obtain⟨s,hs,hv⟩:=List.mem_flatMap.1 hb
  exact OwnS.lt (h.slh s hs) b hv
theorem Inv.change(h:Inv w0 S0 Fs bl sl w)(D:List Nat)(hD:∀b∈D,b∈blks bl sl)(kw:Keep w D w')(hF:∀G∈Fs',G∈Fs∨(HpIn G w'∧∀b∈blks bl' sl',G b=none))
  (own':∀p∈bl',w'.heap[p.1]?=some p.2) (slh':∀s∈sl',s.holds w') (nd:(blks bl' sl').Nodup) (mi:∀b∈blks bl' sl',b∈blks bl sl∨w.heap.size≤b):Inv w0 S0 Fs' bl' sl' w':=by
 refine⟨⟨fun G hG=>?_,own',slh'⟩,⟨kw.os.trans h.keep.os,kw.tape.trans h.keep.tape,kw.output.trans h.keep.output,Nat.le_trans h.keep.size kw.size,fun b hb hS=>?_⟩,nd,fun b hb=>?_,fun b hb G hG=>?_⟩
 ·rcases hF G hG with hG |hG
  ·intro b o hb
   have h1:=h.mem.fs G hG b o hb
   rw[kw.block b (Xch h1) (fun hbD=>by have:=h.apart b (hD b hbD) G hG;rw[this] at hb;cases hb)]
   exact h1
  ·exact hG.1
 ·rw[kw.block b (Nat.lt_of_lt_of_le hb h.keep.size) (fun hbD=>by
   rcases h.mine b (hD b hbD) with h1 |h1
   ·exact hS h1
   ·omega)]
  exact h.keep.block b hb hS
 ·rcases mi b hb with h1 |h1
  ·exact h.mine b h1
  ·exact .inr (Nat.le_trans h.keep.size h1)
 ·rcases hF G hG with hG |hG
  ·rcases mi b hb with h1 |h1
   ·exact h.apart b h1 G hG
   ·cases hg:G b with
    |none=>rfl
    |some o=>have:=Xch (h.mem.fs G hG b o hg);omega
  ·exact hG.2 b hb
theorem Keep.alloc(w:World)(o:Obj):Keep w [] (w.alloc o):=⟨rfl,rfl,rfl,by show _≤(w.heap.push o).size;simp,fun b hb _=>Below.heap_alloc w o b hb⟩
theorem Keep.trans{a b c:World}{D:List Nat}(h:Keep a D b)(k:Keep b D c):Keep a D c:=
 ⟨k.os.trans h.os,k.tape.trans h.tape,k.output.trans h.output,Nat.le_trans h.size k.size,fun x hx hD=>(k.block x (Nat.lt_of_lt_of_le hx h.size) hD).trans (h.block x hx hD)⟩
theorem Inv.alloc(h:Inv w0 S0 Fs bl sl w)(o:Obj):Inv w0 S0 Fs ((w.heap.size,o)::bl) sl (w.alloc o):=by
 have hlt:∀b∈blks bl sl,b<w.heap.size:=fun b hb=>Xbu h.mem hb
 refine h.change [] (by simp) (Keep.alloc w o) (fun G hG=> .inl hG) (fun p hp=>?_) (fun s hs=>?_) ?_ (fun b hb=>?_)
 ·rcases List.mem_cons.1 hp with rfl |hp
  ·exact heap_alloc_new w o
  ·rw[Below.heap_alloc w o p.1 (Xch (h.mem.own p hp))];exact h.mem.own p hp
 ·exact OwnS.same (h.mem.slh s hs) fun b hb=>Below.heap_alloc w o b (OwnS.lt (h.mem.slh s hs) b hb)
 ·simp only [blks,List.map_cons,List.cons_append,List.nodup_cons]
  exact⟨fun hm=>Nat.lt_irrefl _ (hlt _ hm),h.nodup⟩
 ·simp only [blks,List.map_cons,List.cons_append,List.mem_cons] at hb
  rcases hb with rfl |hb
  ·exact .inr (Nat.le_refl _)
  ·exact .inl hb
theorem Inv.set(h:Inv w0 S0 Fs bl sl w)(i:Nat){b:Nat}{o o':Obj}(hi:bl[i]?=some (b,o))(kw:Keep w [b] w')(hb:w'.heap[b]?=some o'):Inv w0 S0 Fs (bl.set i (b,o')) sl w':=by
 have hmem:(b,o)∈bl:=List.mem_of_getElem? hi
 have hlt:i<bl.length:=by rcases Nat.lt_or_ge i bl.length with h |h;exact h;rw[List.getElem?_eq_none h] at hi;cases hi
 have hmap:(bl.set i (b,o')).map (·.1)=bl.map (·.1):=by
  rw[List.map_set]
  have h1:(bl.map (·.1))[i]'(by simpa using hlt)=b:=by
   rw[List.getElem_map]
   rw[List.getElem?_eq_getElem hlt] at hi
   rw[Option.some.inj hi]
  conv=>lhs;arg 3;rw[← h1]
  exact List.set_getElem_self _
 have hblks:blks (bl.set i (b,o')) sl=blks bl sl:=by simp only [blks,hmap]
 have hbm:b∈blks bl sl:=List.mem_append_left _ (List.mem_map.2 ⟨_,hmem,rfl⟩)
 refine h.change [b] (by simpa using hbm) kw (fun G hG=> .inl hG) (fun p hp=>?_) (fun s hs=>?_) (by rw[hblks];exact h.nodup) (fun x hx=> .inl (by rwa [hblks] at hx))
 ·obtain⟨j,hj,rfl⟩:=List.getElem_of_mem hp
  rw[List.getElem_set]
  split
  ·exact hb
  ·rename_i hne
   have hj':j<bl.length:=by simpa using hj
   have hpj:=h.mem.own bl[j] (List.getElem_mem hj')
   rw[kw.block _ (Xch hpj) ?_]
   ·exact hpj
   ·simp only [List.mem_singleton]
    intro e
    have hnd:(bl.map (·.1)).Nodup:=(List.nodup_append.1 h.nodup).1
    have:=(List.getElem_inj (i:=i) (j:=j) (h₀:=by simpa using hlt) (h₁:=by simpa using hj') hnd).1 (by
     simp only [List.getElem_map]
     rw[e]
     have:bl[i]=(b,o):=by rw[List.getElem?_eq_getElem hlt] at hi;exact Option.some.inj hi
     rw[this])
    exact hne this
 ·exact OwnS.same (h.mem.slh s hs) fun x hx=>by
   refine kw.block x (OwnS.lt (h.mem.slh s hs) x hx) ?_
   simp only [List.mem_singleton]
   rintro rfl
   exact(List.nodup_append.1 h.nodup).2.2 _ (List.mem_map.2 ⟨_,hmem,rfl⟩) _ (List.mem_flatMap.2 ⟨s,hs,hx⟩) rfl
end
section
variable{P:Program}{c:Cx}{R:Value→World→Prop}{nt:Nat}{w0:World}{S0:List Nat}{df:List Deferred}{ρ ρ':Env}{Fs Fs':List Hp}{bl bl':Blks}{sl sl':List OwnS}
 {K K':Act→World→Prop} {k:List Item} {ty:TypeId}
theorem Cov.new_{d:Nat}{op:Op}{o:Obj}{fv:Nat→Value}(hs:Stp P K' ⟨some d,op,ty,none⟩ K)
  (h:∀a w,Fits nt df ρ a→Mem Fs bl sl w→(execOp a.eval ⟨none,op,ty,"",#[],none⟩).run P w= .ok (.value (fv w.heap.size)) (w.alloc o)) (hd:Nat.blt d nt=true)
  (hk:∀b,w0.heap.size≤b→Cov nt w0 S0 df ((d,fv b)::ρ) Fs ((b,o)::bl) sl K):Cov nt w0 S0 df ρ Fs bl sl K':=fun a w hf hi=>by
 refine hs a w ?_
 unfold Oper.wp
 rw[show execOp a.eval (⟨some d,op,ty,none⟩:OpX).oper=execOp a.eval ⟨none,op,ty,"",#[],none⟩ from rfl,h a w hf hi.mem]
 exact hk _ hi.keep.size _ _ (hf.put hd _) (hi.alloc o)
theorem Cov.alloc{d:Nat}{t:TypeId}{agg:Bool}{sz bytes:Nat}{z:List Value}(hs:Stp P K' ⟨some d, .alloc t,ty,none⟩ K)(ht:TyI P t agg sz bytes z)(hd:Nat.blt d nt=true)
  (hk:∀b,w0.heap.size≤b→Cov nt w0 S0 df ((d, .pointer (some ⟨b,0,none⟩))::ρ) Fs ((b, .cells z.toArray t (0,0))::bl) sl K):Cov nt w0 S0 df ρ Fs bl sl K':=
 .new_ (fv:=fun b=> .pointer (some ⟨b,0,none⟩)) hs (fun a w hf hm=>by
  obtain⟨zv,hz1,hz2⟩:=Xdy ht.z w
  refine X89 (s:=Instr.alloc t true (.tuple #[])) ?_
  unfold Instr.alloc
  rw[Sem.run_bind,hz1]
  simp only [Result.andThen_ok]
  simp [newVar,newRow,hz2]) hd hk
def cellsL(v:Value):List Value:=v.cells.toList
theorem Cov.box(cs:List Value){d:Nat}{t:TypeId}{x:Operand}{v:Value}(hs:Stp P K' ⟨some d, .box t x,ty,none⟩ K)(hx:ev ρ x=some v)(hc:cellsL v=cs)(hd:Nat.blt d nt=true)
  (hk:∀b,w0.heap.size≤b→Cov nt w0 S0 df ((d, .pointer (some ⟨b,0,none⟩))::ρ) Fs ((b, .cells cs.toArray t (0,0))::bl) sl K):Cov nt w0 S0 df ρ Fs bl sl K':=
 .new_ (fv:=fun b=> .pointer (some ⟨b,0,none⟩)) hs (fun a w hf hm=>by
  refine X89 (s:=Instr.box t (a.eval x)) ?_
  rw[X10 hf hx]
  have:v.cells=cs.toArray:=by rw[← hc];simp [cellsL]
  simp [Instr.box,newVar,newRow,this]) hd hk
theorem Xc2{w:World}{t:TypeId}{b o:Nat}{v:Value}{cs cs':List Value}{T:TypeId}{agg:Bool}{bytes:Nat}{z:List Value}(ht:TyI P t agg (cellsL v).length bytes z)(hb:w.heap[b]?=some (.cells cs.toArray T (0,0)))
  (h1:(cellsL v).all (·.oneCell')=true) (hfit:o+(cellsL v).length≤cs.length) (hcs:cs.take o++cellsL v++cs.drop (o+(cellsL v).length)=cs'):
  ∃w',(storeVar t ⟨b,o,none⟩ v).run P w= .ok () w'∧Keep w [b] w'∧w'.heap[b]?=some (.cells cs'.toArray T (0,0)):=by
 have hst:=run_storeCells_at P b o T (cellsL v) 0 cs.toArray w hb (by simpa using hfit) (fun u hu=>List.all_eq_true.1 h1 u hu)
 refine⟨_,?_,?_,setRow_heap w b _ _ _ _ hb⟩
 rotate_left
 ·exact⟨rfl,rfl,rfl,by simp [World.setRow],fun x _ hD=>setRow_other w b x _ (by simpa using hD)⟩
 ·unfold storeVar
  rw[Sem.run_bind,X1k ht.sz]
  simp only [Result.andThen_ok]
  rw[if_neg (by simp [cellsL])]
  simp only [Nat.add_zero] at hst
  rw[← hcs]
  simpa [cellsL] using hst
theorem Cov.store(i:Nat)(cs':List Value)(bl':Blks){t:TypeId}{x y:Operand}{b o:Nat}{v:Value}{cs:List Value}{T:TypeId}{agg:Bool}{bytes:Nat}{z:List Value}(hs:Stp P K' ⟨none, .store t x y,ty,none⟩ K)
  (hx:ev ρ x=some (.pointer (some ⟨b,o,none⟩))) (hy:ev ρ y=some v) (hb:bl[i]?=some (b, .cells cs.toArray T (0,0))) (ht:TyI P t agg (cellsL v).length bytes z)
  (h1:(cellsL v).all (·.oneCell')=true) (hfit:Nat.ble (o+(cellsL v).length) cs.length=true) (hcs:cs.take o++cellsL v++cs.drop (o+(cellsL v).length)=cs') (hbl:bl.set i (b, .cells cs'.toArray T (0,0))=bl')
  (hk:Cov nt w0 S0 df ρ Fs bl' sl K):Cov nt w0 S0 df ρ Fs bl sl K':=fun a w hf hi=>by
 refine hs a w ?_
 obtain⟨w',hr,kw,hb'⟩:=Xc2 (P:=P) ht (hi.mem.own _ (List.mem_of_getElem? hb)) h1 (by simpa [Nat.ble_eq] using hfit) hcs
 unfold Oper.wp
 have:(execOp a.eval (⟨none, .store t x y,ty,none⟩:OpX).oper).run P w= .ok .skip w':=by
  refine Xm6 (s:=Instr.storeAt t (a.eval x) (a.eval y)) ?_
  rw[X10 hf hx,X10 hf hy]
  exact hr
 rw[this]
 subst hbl
 exact hk _ _ (hf.put_none _) (hi.set i hb kw hb')
theorem Cov.less(Fs':List Hp)(hF:∀G∈Fs',G∈Fs)(h:Cov nt w0 S0 df ρ Fs' bl sl K):Cov nt w0 S0 df ρ Fs bl sl K:=fun a w hf hi=>
 h a w hf (hi.change [] (by simp) (Keep.refl w []) (fun G hG=> .inl (hF G hG)) hi.mem.own hi.mem.slh hi.nodup (fun _ hx=> .inl hx))
theorem Inv.perm{w:World}(hi:Inv w0 S0 Fs bl sl w)(hb:bl.Perm bl')(hs:sl.Perm sl'):Inv w0 S0 Fs bl' sl' w:=by
 have hp:(blks bl sl).Perm (blks bl' sl'):=(hb.map _).append (hs.flatMap_right _)
 exact hi.change [] (by simp) (Keep.refl w []) (fun G hG=> .inl hG) (fun p hp=>hi.mem.own p (hb.mem_iff.2 hp)) (fun s h=>hi.mem.slh s (hs.mem_iff.2 h)) (hp.nodup_iff.1 hi.nodup) (fun _ hx=> .inl (hp.mem_iff.2 hx))
theorem Cov.pull(i:Nat){p:Nat×Obj}(hp:bl[i]?=some p)(bl':Blks)(hbl:p::bl.eraseIdx i=bl')(h:Cov nt w0 S0 df ρ Fs bl' sl K):Cov nt w0 S0 df ρ Fs bl sl K:=fun a w hf hi=>by
 subst hbl
 have h1:bl.Perm (p::bl.eraseIdx i):=X6p _ _ _ hp
 exact h a w hf (hi.perm h1 (List.Perm.refl _))
theorem Cov.drop(m n:Nat)(bl':Blks)(sl':List OwnS)(hbl:bl.drop m=bl')(hsl:sl.drop n=sl')(h:Cov nt w0 S0 df ρ Fs bl' sl' K):Cov nt w0 S0 df ρ Fs bl sl K:=fun a w hf hi=>by
 subst hbl hsl
 have hsub:(blks (bl.drop m) (sl.drop n)).Sublist (blks bl sl):=((List.drop_sublist _ _).map _).append (Xcm _ (List.drop_sublist _ _))
 exact h a w hf (hi.change [] (by simp) (Keep.refl w []) (fun G hG=> .inl hG) (fun p hp=>hi.mem.own p (List.mem_of_mem_drop hp)) (fun s hs=>hi.mem.slh s (List.mem_of_mem_drop hs)) (hi.nodup.sublist hsub) (fun _ hx=> .inl (hsub.subset hx)))
end
end Go.Proofs.YtnfalgmfmiolbaaGreat
end

section
namespace Go.Proofs.YtnfalgmfmiolbaaGreat
open Go.RowKit
def empHp:Hp:=fun _=>none
def RP(w0:World)(S0:List Nat)(Fs:List Hp)(Post:Value→Hp→Blks→List OwnS→Prop)(v:Value)(w':World):Prop:=
 ∃Fr bl' sl',Fresh w0 Fr∧Inv w0 S0 (Fr::Fs) bl' sl' w'∧Post v Fr bl' sl'
def Ret(P:Program)(f:FuncId)(args:Array Value)(Fs:List Hp)(bin:Blks)(Post:Value→Hp→Blks→List OwnS→Prop):Prop:=
 ∀w,(∀G∈Fs,HpIn G w)→(∀p∈bin,w.heap[p.1]?=some p.2)→(bin.map (·.1)).Nodup→(∀p∈bin,∀G∈Fs,G p.1=none)→CallsV P f args w (RP w (bin.map (·.1)) Fs Post)
def RetV(P:Program)(f:FuncId)(args:Array Value)(Fs:List Hp)(Q:Value→Prop):Prop:=Ret P f args Fs [] fun v _ bl sl=>Q v∧bl=[]∧sl=[]
theorem Ret.mono{P:Program}{f:FuncId}{args:Array Value}{Fs:List Hp}{bin:Blks}{Post Post':Value→Hp→Blks→List OwnS→Prop}(h:Ret P f args Fs bin Post)(hp:∀v Fr bl sl,Post v Fr bl sl→Post' v Fr bl sl):Ret P f args Fs bin Post':=
 fun w h1 h2 h3 h4=>(h w h1 h2 h3 h4).mono fun _ _ ⟨Fr,bl,sl,a,b,d⟩=>⟨Fr,bl,sl,a,b,hp _ _ _ _ d⟩
def ArgsOk(vs:List Value):Env→Prop
 | []=>True
 | (t,v)::r=>vs[t]?=some v∧ArgsOk vs r
theorem ArgsOk.spec{vs:List Value}:∀{ρ:Env},ArgsOk vs ρ→∀t v,ρ.lookup t=some v→vs[t]?=some v
 | [],_,t,v,h=>by simp at h
 | (s,u)::r,⟨h1,h2⟩,t,v,h=>by
  simp only [List.lookup] at h
  by_cases e:t=s
  ·subst e;simp only [beq_self_eq_true] at h;cases h;exact h1
  ·have e':(t == s)=false:=by simpa using e
   simp only [e'] at h
   exact ArgsOk.spec h2 t v h
section
variable{P:Program}{c:Cx}{R:Value→World→Prop}{nt:Nat}{w0:World}{S0:List Nat}{df:List Deferred}{ρ ρ':Env}{Fs Fs':List Hp}{bl bl':Blks}{sl sl':List OwnS}
 {K K':Act→World→Prop} {k:List Item} {ty:TypeId}
theorem Ret.of{f:FuncId}{fn:Func}{code:Code}{vs:List Value}{bin:Blks}{Post:Value→Hp→Blks→List OwnS→Prop}(hf:P.funcs[f]?=some fn)(hb:fn.body=some code)(hn:fn.ntmps=nt)(ρ0:Env)(hρ:ArgsOk vs ρ0)(hlen:Nat.ble vs.length nt=true)
  (h:∀w0,Cov nt w0 (bin.map (·.1)) [] ρ0 Fs bin [] (Run P ⟨f,none⟩ (RP w0 (bin.map (·.1)) Fs Post) [.code code])):Ret P f vs.toArray Fs bin Post:=by
 intro w h1 h2 h3 h4 cs
 have hlen':vs.length≤nt:=by simpa [Nat.ble_eq] using hlen
 obtain⟨v,w',hR,fr,hs,hfn,hl⟩:=h w {tmps:=vs.toArray++Array.replicate (nt-vs.length) undef,defers:=[]} w
  ⟨rfl,by simp;omega,fun t v ht=>by
   have:=hρ.spec t v ht
   have hlt:t<vs.length:=by rcases Nat.lt_or_ge t vs.length with h |h;exact h;rw[List.getElem?_eq_none h] at this;cases this
   simp only
   rw[Array.getElem?_append_left (by simpa using hlt)]
   simpa using this⟩
  ⟨⟨h1,h2,fun s hs=>by simp at hs⟩,Keep.refl w _,by simpa [blks] using h3,fun b hb=> .inl (by simpa [blks] using hb),fun b hb G hG=>by
   simp only [blks,List.flatMap_nil,List.append_nil,List.mem_map] at hb
   obtain⟨p,hp,rfl⟩:=hb
   exact h4 p hp G hG⟩ cs (by simp)
 have henter:Frame.enter P f vs.toArray .normal=(⟨f,none⟩:Cx).fr {tmps:=vs.toArray++Array.replicate (nt-vs.length) undef,defers:=[]} [.code code]:=by
  simp [Frame.enter,Cx.fr,hf,hb,hn]
 refine⟨.returned v,w',fr,⟨v,rfl,hR⟩,?_,hfn,hl⟩
 rw[henter]
 exact hs
theorem Xga{e:Operand→Value}{f:FuncId}{fop:Operand}{args:Array Operand}{ts:Array TypeId}{dst:Option Tmp}{vs cap:List Value}{w:World}(hf:ev ρ fop=some (.func (.func f) #[] cap.toArray))(ha:args.toList.map (ev ρ)=vs.map some)
  (he:∀x u,ev ρ x=some u→e x=u) (hcall:∀args w,(callFunc f args).run P w= .ok (.enter f args) w):
  (execOp e ⟨dst, .call ⟨.value fop,args,ts⟩,ty,"",#[],none⟩).run P w= .ok (.enter f (vs++cap).toArray) w:=by
 have key:∀(l:List Operand)(vl:List Value),l.map (ev ρ)=vl.map some→l.map e=vl:=by
  intro l
  induction l with
  |nil=>intro vl h;cases vl<;>simp at h ⊢
  |cons x l ih=>
   intro vl h
   cases vl with
   |nil=>simp at h
   |cons v vl=>
    simp only [List.map_cons,List.cons.injEq] at h
    simp only [List.map_cons,he x v h.1,ih vl h.2]
 have h1:args.map e=vs.toArray:=by rw[← Array.toList_inj];simpa using key _ _ ha
 simp only [execOp,resolve,h1,he fop _ hf,Deferred.ofValue]
 simp only [Sem.run_bind,Sem.run_pure,Result.andThen_ok,invoke]
 simpa using hcall (vs.toArray++cap.toArray) w
theorem Inv.called{w w':World}(hi:Inv w0 S0 Fs bl sl w)(n:Nat){Fr:Hp}{bo:Blks}{so:List OwnS}(hfr:Fresh w Fr)(ho:Inv w ((bl.take n).map (·.1)) (Fr::Fs) bo so w'):
  Inv w0 S0 (Fr::Fs) (bo++bl.drop n) (so++sl) w':=by
 have hbl:bl=bl.take n++bl.drop n:=(List.take_append_drop n bl).symm
 have hndall:=hi.nodup
 have hrest:∀b∈blks (bl.drop n) sl,b∈blks bl sl∧b ∉ (bl.take n).map (·.1):=by
  intro b hb
  have h0:blks bl sl=(bl.take n).map (·.1)++blks (bl.drop n) sl:=by
   simp only [blks];rw[← List.append_assoc, ← List.map_append,List.take_append_drop]
  rw[h0] at hndall ⊢
  refine⟨List.mem_append_right _ hb,fun hm=>?_⟩
  exact(List.nodup_append.1 hndall).2.2 b hm b hb rfl
 have hlt:∀b∈blks (bl.drop n) sl,b<w.heap.size:=fun b hb=>Xbu hi.mem (hrest b hb).1
 have hkeep:∀b∈blks (bl.drop n) sl,w'.heap[b]?=w.heap[b]?:=fun b hb=>ho.keep.block b (hlt b hb) (hrest b hb).2
 have hsplit:∀b,b∈blks (bo++bl.drop n) (so++sl)↔b∈blks bo so∨b∈blks (bl.drop n) sl:=by
  intro b
  simp only [blks,List.map_append,List.flatMap_append,List.mem_append]
  constructor
  ·rintro((h |h) | (h |h))
   ·exact .inl (.inl h)
   ·exact .inr (.inl h)
   ·exact .inl (.inr h)
   ·exact .inr (.inr h)
  ·rintro((h |h) | (h |h))
   ·exact .inl (.inl h)
   ·exact .inr (.inl h)
   ·exact .inl (.inr h)
   ·exact .inr (.inr h)
 have hD:∀b∈(bl.take n).map (·.1),b∈blks bl sl:=fun b hb=>by
  refine List.mem_append_left _ ?_
  obtain⟨p,hp,rfl⟩:=List.mem_map.1 hb
  exact List.mem_map.2 ⟨p,List.mem_of_mem_take hp,rfl⟩
 refine hi.change ((bl.take n).map (·.1)) hD ho.keep (fun G hG=>?_) (fun p hp=>?_) (fun s hs=>?_) ?_ (fun b hb=>?_)
 ·rcases List.mem_cons.1 hG with rfl |hG
  ·refine .inr ⟨ho.mem.fs _ List.mem_cons_self,fun b hb=>?_⟩
   rcases(hsplit b).1 hb with h |h
   ·exact ho.apart b h _ List.mem_cons_self
   ·cases hg:G b with
    |none=>rfl
    |some o=>have:=hfr b o hg;have:=hlt b h;omega
  ·exact .inl hG
 ·rcases List.mem_append.1 hp with hp |hp
  ·exact ho.mem.own p hp
  ·rw[hkeep p.1 (List.mem_append_left _ (List.mem_map.2 ⟨p,hp,rfl⟩))]
   exact hi.mem.own p (List.mem_of_mem_drop hp)
 ·rcases List.mem_append.1 hs with hs |hs
  ·exact ho.mem.slh s hs
  ·exact OwnS.same (hi.mem.slh s hs) fun b hb=>hkeep b (List.mem_append_right _ (List.mem_flatMap.2 ⟨s,hs,hb⟩))
 ·have hperm:(blks (bo++bl.drop n) (so++sl)).Perm (blks bo so++blks (bl.drop n) sl):=by
   simp only [blks,List.map_append,List.flatMap_append]
   rw[List.append_assoc,List.append_assoc]
   refine List.Perm.append_left _ ?_
   rw[← List.append_assoc, ← List.append_assoc]
   exact List.perm_append_comm.append_right _
  rw[hperm.nodup_iff,List.nodup_append]
  refine⟨ho.nodup,?_,fun a ha b hb e=>?_⟩
  ·have:(blks (bl.drop n) sl).Sublist (blks bl sl):=((List.drop_sublist n bl).map _).append (List.Sublist.refl _)
   exact hi.nodup.sublist this
  ·subst e
   rcases ho.mine a ha with h |h
   ·exact(hrest a hb).2 h
   ·have:=hlt a hb;omega
 ·rcases(hsplit b).1 hb with h |h
  ·rcases ho.mine b h with h |h
   ·exact .inl (hD b h)
   ·exact .inr h
  ·exact .inl (hrest b h).1
theorem Ret.use{f:FuncId}{args:Array Value}{n:Nat}{Post:Value→Hp→Blks→List OwnS→Prop}(hr:Ret P f args Fs (bl.take n) Post){w:World}(hi:Inv w0 S0 Fs bl sl w):
  CallsV P f args w (RP w ((bl.take n).map (·.1)) Fs Post):=by
 refine hr w hi.mem.fs (fun p hp=>hi.mem.own p (List.mem_of_mem_take hp)) ?_ (fun p hp G hG=>hi.apart p.1 (List.mem_append_left _ (List.mem_map.2 ⟨p,List.mem_of_mem_take hp,rfl⟩)) G hG)
 have:((bl.take n).map (·.1)).Sublist (blks bl sl):=((List.take_sublist n bl).map _).trans (List.sublist_append_left _ _)
 exact hi.nodup.sublist this
theorem Cov.call(n:Nat)(vs cap:List Value){d:Nat}{f:FuncId}{fop:Operand}{args:Array Operand}{ts:Array TypeId}{Post:Value→Hp→Blks→List OwnS→Prop}(hs:Stp P K' ⟨some d, .call ⟨.value fop,args,ts⟩,ty,none⟩ K)
  (hf:ev ρ fop=some (.func (.func f) #[] cap.toArray)) (ha:args.toList.map (ev ρ)=vs.map some) (hcall:∀args w,(callFunc f args).run P w= .ok (.enter f args) w) (hr:Ret P f (vs++cap).toArray Fs (bl.take n) Post) (hd:Nat.blt d nt=true)
  (hk:∀v Fr bo so,Fresh w0 Fr→Post v Fr bo so→Cov nt w0 S0 df ((d,v)::ρ) (Fr::Fs) (bo++bl.drop n) (so++sl) K):Cov nt w0 S0 df ρ Fs bl sl K':=fun a w hfi hi=>by
 refine hs a w ?_
 unfold Oper.wp
 have:=Xga (P:=P) (ty:=ty) (ts:=ts) (dst:=some d) (w:=w) hf ha (fun x u hx=>X10 hfi hx) hcall
 rw[show(⟨some d, .call ⟨.value fop,args,ts⟩,ty,none⟩:OpX).oper=⟨some d, .call ⟨.value fop,args,ts⟩,ty,"",#[],none⟩ from rfl,this]
 refine Calls.mono (hr.use hi) fun e w' ⟨v,he,Fr,bo,so,h1,h2,h3⟩=>?_
 subst he
 exact hk v Fr bo so (fun b o hb=>Nat.le_trans hi.keep.size (h1 b o hb)) h3 _ _ (hfi.put hd v) (hi.called n h1 h2)
def RV(P:Program)(ρ:Env)(Fs:List Hp)(bl:Blks)(sl:List OwnS)(rv:ResultVar)(v:Value):Prop:=
 ∀nt df a w,Fits nt df ρ a→Mem Fs bl sl w→(match rv with | .tmp t=>pure (a.tmps.getD t undef) | .cell x t=>do loadVar t (← asAddr (a.tmps.getD x undef)):Sem Value).run P w= .ok v w
theorem Xcn{a:Act}(h:Fits nt df ρ a){t:Nat}{v:Value}(ht:ρ.lookup t=some v):a.tmps.getD t undef=v:=by
 have:=h.2.2 t v ht
 simp [Array.getD_eq_getD_getElem?,this]
theorem RV.tmp{t:Nat}{v:Value}(h:ρ.lookup t=some v):RV P ρ Fs bl sl (.tmp t) v:=fun nt df a w hf _=>by
 simp [Xcn hf h]
theorem RV.cell(i:Nat){x:Nat}{t:TypeId}{b o:Nat}{cs:List Value}{T:TypeId}{fz:Nat×Nat}{v:Value}{sz bytes:Nat}{z:List Value}(hx:ρ.lookup x=some (.pointer (some ⟨b,o,none⟩)))(h:bl[i]?=some (b, .cells cs.toArray T fz))
  (ht:TyI P t false sz bytes z) (hv:cs[o]?=some v):RV P ρ Fs bl sl (.cell x t) v:=fun nt df a w hf hm=>by
 have:=Xce hm h o
 simp only [Xcn hf hx,asAddr,Sem.run_bind,Sem.run_pure,Result.andThen_ok]
 exact X5v (X3x ht.agg) (this.trans hv)
theorem RV.cell_a(i:Nat)(l:List Value){x:Nat}{t:TypeId}{b o:Nat}{cs:List Value}{T:TypeId}{fz:Nat×Nat}{bytes:Nat}{z:List Value}(hx:ρ.lookup x=some (.pointer (some ⟨b,o,none⟩)))(h:bl[i]?=some (b, .cells cs.toArray T fz))
  (ht:TyI P t true l.length bytes z) (hv:(cs.drop o).take l.length=l):RV P ρ Fs bl sl (.cell x t) (.agg l.toArray):=fun nt df a w hf hm=>by
 have h2:=Xce hm h
 have h3:∀(j:Nat)(v:Value),l[j]?=some v→w.cell? ⟨b,o+j,none⟩=some v:=fun j v hj=>by
  rw[h2, ← hj, ← hv]
  have:j<l.length:=by rcases Nat.lt_or_ge j l.length with h |h;exact h;rw[List.getElem?_eq_none h] at hj;cases hj
  simp [List.getElem?_drop,this]
 simp only [Xcn hf hx,asAddr,Sem.run_bind,Sem.run_pure,Result.andThen_ok]
 exact X5w (X3x ht.agg) (X1k ht.sz) h3
def RVs(P:Program)(ρ:Env)(Fs:List Hp)(bl:Blks)(sl:List OwnS):List ResultVar→List Value→Prop
 | [],[]=>True
 |r::rs,v::vs=>RV P ρ Fs bl sl r v∧RVs P ρ Fs bl sl rs vs
 |_,_=>False
def retVal:List Value→Value
 | [v]=>v
 |vs=> .tuple vs.toArray
theorem Xh6{a:Act}{w:World}(hf:Fits nt df ρ a)(hm:Mem Fs bl sl w):∀(rs:List ResultVar)(vs:List Value),RVs P ρ Fs bl sl rs vs→
  (rs.mapM (fun r=>match r with | .tmp t=>pure (a.tmps.getD t undef) | .cell x t=>do loadVar t (← asAddr (a.tmps.getD x undef)):ResultVar→Sem Value)).run P w= .ok vs w
 | [],[],_=>by simp
 |r::rs,v::vs,⟨h1,h2⟩=>by
  simp only [List.mapM_cons]
  rw[Sem.run_bind,h1 nt df a w hf hm]
  simp only [Result.andThen_ok]
  rw[Sem.run_bind,Xh6 hf hm rs vs h2]
  simp
theorem X8a{a:Act}{w:World}{fn:Func}{rs:List ResultVar}{vs:List Value}(hf:Fits nt df ρ a)(hm:Mem Fs bl sl w)(hrs:fn.results=rs.toArray)(h:RVs P ρ Fs bl sl rs vs):(results fn a.tmps).run P w= .ok (retVal vs) w:=by
 unfold results
 have h1:=Xh6 hf hm rs vs h
 rw[hrs,Sem.run_bind,List.mapM_toArray,map_eq_pure_bind,Sem.run_bind]
 have h2:∀(g:ResultVar→Sem Value),(∀r,g r=(match r with | .tmp t=>pure (a.tmps.getD t undef) | .cell x t=>do loadVar t (← asAddr (a.tmps.getD x undef)):Sem Value))→(rs.mapM g).run P w= .ok vs w:=by
  intro g hg
  rw[show g=_ from funext hg]
  exact h1
 rw[h2 _ (fun r=>by cases r<;>rfl)]
 simp only [Result.andThen_ok,Sem.run_pure]
 match vs with
 | []=>rfl
 | [v]=>rfl
 |v::u::vs=>simp [retVal]
theorem Cov.leave{fn:Func}{items:List Item}(hi:items=[]∨∃k,items= .code .ret::k)(rs:List ResultVar)(vs:List Value){Fin:List Hp}{Fr:Hp}{Post:Value→Hp→Blks→List OwnS→Prop}(hro:c.ro=none)(hf:P.funcs[c.fn]?=some fn)(hrs:fn.results=rs.toArray)
  (hres:RVs P ρ Fs bl sl rs vs) (hsub:∀G∈Fin,G∈Fs) (hFr:Fr=empHp∨Fr∈Fs) (hfresh:Fresh w0 Fr) (hpost:Post (retVal vs) Fr bl sl):
  Cov nt w0 S0 [] ρ Fs bl sl (Run P c (RP w0 S0 Fin Post) items):=fun a w hfi hinv=>by
 refine Run.leave hi hro hf hfi.1 (X8a hfi hinv.mem hrs hres) ⟨Fr,bl,sl,hfresh,?_,hpost⟩
 refine hinv.change [] (by simp) (Keep.refl w []) (fun G hG=>?_) hinv.mem.own hinv.mem.slh hinv.nodup (fun _ hx=> .inl hx)
 rcases List.mem_cons.1 hG with rfl |hG
 ·rcases hFr with rfl |hFr
  ·exact .inr ⟨fun b o hb=>by simp [empHp] at hb,fun _ _=>rfl⟩
  ·exact .inl hFr
 ·exact .inl (hsub G hG)
theorem Xco(w:World):Fresh w empHp:=fun _ _ h=>by simp [empHp] at h
theorem Cov.retv{fn:Func}(rs:List ResultVar)(vs:List Value){Fin:List Hp}{Q:Value→Prop}(hro:c.ro=none)(hf:P.funcs[c.fn]?=some fn)(hrs:fn.results=rs.toArray)
  (hres:RVs P ρ Fs bl sl rs vs) (hsub:∀G∈Fin,G∈Fs) (hpost:Q (retVal vs)):
  Cov nt w0 S0 [] ρ Fs bl sl (Run P c (RP w0 S0 Fin (fun v _ bl sl=>Q v∧bl=[]∧sl=[])) (.code .ret::k)):=fun a w hfi hinv=>by
 refine Run.leave (.inr ⟨k,rfl⟩) hro hf hfi.1 (X8a hfi hinv.mem hrs hres) ⟨empHp,[],[],Xco w0,?_,hpost,rfl,rfl⟩
 refine hinv.change [] (by simp) (Keep.refl w []) (fun G hG=>?_) (by simp) (by simp) (by simp [blks]) (by simp [blks])
 rcases List.mem_cons.1 hG with rfl |hG
 ·exact .inr ⟨fun b o hb=>by simp [empHp] at hb,fun _ _=>rfl⟩
 ·exact .inl (hsub G hG)
end
end Go.Proofs.YtnfalgmfmiolbaaGreat
end

section
namespace Go.Proofs.YtnfalgmfmiolbaaGreat
open Go.RowKit
section
variable{P:Program}{c:Cx}{R:Value→World→Prop}{nt:Nat}{w0:World}{S0:List Nat}{df:List Deferred}{ρ ρ':Env}{Fs Fs':List Hp}{bl bl':Blks}{sl sl':List OwnS}
 {K K':Act→World→Prop} {k:List Item} {ty:TypeId}
theorem Cov.recell(i:Nat)(cs':List Value){b:Nat}{cs:List Value}{T:TypeId}{fz:Nat×Nat}(hb:bl[i]?=some (b, .cells cs.toArray T fz))(he:cs=cs')(bl':Blks)(hbl:bl.set i (b, .cells cs'.toArray T fz)=bl')(h:Cov nt w0 S0 df ρ Fs bl' sl K):Cov nt w0 S0 df ρ Fs bl sl K:=by
 subst he
 have:bl.set i (b, .cells cs.toArray T fz)=bl:=by
  have hlt:i<bl.length:=by rcases Nat.lt_or_ge i bl.length with h |h;exact h;rw[List.getElem?_eq_none h] at hb;cases hb
  rw[List.getElem?_eq_getElem hlt] at hb
  rw[← Option.some.inj hb]
  exact List.set_getElem_self _
 rw[this] at hbl
 subst hbl
 exact h
theorem Cov.loop2{α:Type}(dyn:α→Env)(ρs:Env)(FsD:α→List Hp)(blD:α→Blks)(bls:Blks)(slD:α→List OwnS)(sls:List OwnS)(I:α→Prop)(μ:α→Nat){x:Code}(x0:α)(hI:I x0)(hρ:Sub ρ (dyn x0++ρs))(hF:Fs'=FsD x0++Fs)(hb:bl=blD x0++bls)(hs:sl=slD x0++sls)
  (round:∀y,I y→(∀z,I z→μ z<μ y→Cov nt w0 S0 df (dyn z++ρs) (FsD z++Fs) (blD z++bls) (slD z++sls) (Run P c R (.inLoop x::k)))→
   Cov nt w0 S0 df (dyn y++ρs) (FsD y++Fs) (blD y++bls) (slD y++sls) (Run P c R (.code x:: .inLoop x::k))):Cov nt w0 S0 df ρ Fs' bl sl (Run P c R (.code (.loop x)::k)):=by
 subst hF hb hs
 exact Cov.prune _ hρ (Cov.loop (fun y=>dyn y++ρs) (fun y=>FsD y++Fs) (fun y=>blD y++bls) (fun y=>slD y++sls) I μ round x0 hI)
theorem Sl.mono{G G':Hp}{sz:Nat}{v:Value}{xs:List (List Value)}(h:Sl G sz v xs)(hg:∀b o,G b=some o→G' b=some o):Sl G' sz v xs:=by
 obtain⟨a,cap,h1,h2,h3,h4⟩:=h
 refine⟨a,cap,h1,h2,h3,fun hne=>?_⟩
 obtain⟨b,o,e,hc⟩:=h4 hne
 refine⟨b,o,e,fun i x hi j cc hj=>?_⟩
 have:=hc i x hi j cc hj
 unfold rcell at this ⊢
 cases hgb:G b with
 |none=>rw[hgb] at this;cases this
 |some ob=>rw[hgb] at this;rw[hg b ob hgb];exact this
theorem Sl.nil(G:Hp)(sz:Nat):Sl G sz (.slice none 0 0) []:=⟨none,0,rfl,Nat.le_refl _,by simp,fun h=>absurd rfl h⟩
end
end Go.Proofs.YtnfalgmfmiolbaaGreat
end

section
namespace Go.Proofs.YtnfalgmfmiolbaaGreat
open Go.RowKit
def whole(w:World):Hp:=fun b=>w.heap[b]?
theorem Xip(w:World):HpIn (whole w) w:=fun _ _ h=>h
theorem Xf2{P:Program}{f:FuncId}{args:Array Value}{w:World}{Q:Value→Prop}(h:RetV P f args [whole w] Q):
  Calls P f args w fun e w'=>(∃v,e= .returned v∧Q v)∧Below w.heap.size w w':=by
 refine Calls.mono (h w (fun G hG=>by simp at hG;subst hG;exact Xip w) (by simp) (by simp) (by simp)) fun e w' ⟨v,he,Fr,bl,sl,_,hi,hq,_⟩=>⟨⟨v,he,hq⟩,?_⟩
 exact⟨hi.keep.os,hi.keep.tape,hi.keep.output,hi.keep.size,fun b hb=>hi.keep.block b hb (by simp)⟩
theorem Xgs{P:Program}{f:FuncId}{args:Array Value}{w:World}(h:RetV P f args [whole w] (fun v=>v= .bool true)):
  Calls P f args w fun e w'=>e= .returned (.bool true)∧Below w.heap.size w w':=
 (Xf2 h).mono fun e w' ⟨⟨v,he,hv⟩,hb⟩=>⟨by rw[he,hv],hb⟩
theorem Xdp{w:World}{a:Addr}{v:Value}(h:w.cell? a=some v):a.spot=none∧rcell (whole w) a.block a.off=some v:=by
 unfold World.cell? at h
 unfold rcell whole
 cases hb:w.heap[a.block]? with
 |none=>rw[hb] at h;cases h
 |some o=>
  rw[hb] at h
  cases o<;>simp at h
  obtain⟨h1,h2⟩:=h
  exact⟨h1,by simpa using h2⟩
theorem Xnx{n:Int}(h:(Lit.int .u8 n).wf=true):0≤n∧n≤255:=by simpa [Lit.wf,IntKind.min,IntKind.max,IntKind.signed,IntKind.bits] using h
end Go.Proofs.YtnfalgmfmiolbaaGreat
end

section
namespace Go.Proofs.YtnfalgmfmiolbaaGreat
open Go.RowKit
def fillF(sz:Nat):List Value→List (Nat×Value)→Option (List Value)
 |cells,[]=>some cells
 |cells,(i,v)::rest=>if v.cells.size≠sz || i*sz+v.cells.size>cells.length then none else fillF sz (cells.take (i*sz)++v.cells.toList++cells.drop (i*sz+v.cells.size)) rest
theorem Xe0(sz:Nat):∀(parts:List (Nat×Value))(cells:List Value),Instr.fill (fun i=>some (i*sz,sz)) cells.toArray parts=(fillF sz cells parts).map List.toArray
 | [],cells=>by simp [Instr.fill,fillF]
 | (i,v)::rest,cells=>by
  simp only [Instr.fill,fillF]
  simp only [List.size_toArray]
  split
  ·simp
  ·rename_i hh
   simp only [Bool.or_eq_true,decide_eq_true_eq,not_or,ne_eq,Decidable.not_not] at hh
   rw[← Xe0 sz rest]
   congr 1
   have:=Xdz v.cells.toList (i*sz) 0 cells.toArray (by simp;omega)
   rw[← Array.toList_inj]
   rw[← Array.foldl_toList]
   simpa using this
theorem Xc3{sz:Nat}:∀{parts:List (Nat×Value)}{cells res:List Value},fillF sz cells parts=some res→res.length=cells.length
 | [],cells,res,h=>by simp only [fillF,Option.some.injEq] at h;rw[h]
 | (i,v)::rest,cells,res,h=>by
  simp only [fillF] at h
  split at h
  ·cases h
  ·rename_i hh
   simp only [Bool.or_eq_true,decide_eq_true_eq,not_or,ne_eq,Decidable.not_not] at hh
   rw[Xc3 h]
   simp;omega
def zerosL(z:List Value)(n:Nat):List Value:=(List.range n).map fun i=>z.getD (i%z.length) undef
theorem Xiq(z:List Value)(n:Nat)(hz:0<z.length):((Array.range n).map (z.toArray[· %z.toArray.size]!))=(zerosL z n).toArray:=by
 rw[← Array.toList_inj]
 simp only [Array.toList_map,Array.toList_range,zerosL]
 refine List.map_congr_left fun i _=>?_
 have h:i%z.length<z.length:=Nat.mod_lt _ hz
 simp [List.getD_eq_getElem?_getD,h]
section
variable{P:Program}{c:Cx}{R:Value→World→Prop}{nt:Nat}{w0:World}{S0:List Nat}{df:List Deferred}{ρ ρ':Env}{Fs Fs' Fin:List Hp}{bl bl':Blks}{sl sl':List OwnS}
 {K K':Act→World→Prop} {k:List Item} {ty:TypeId}
theorem Inv.alloc_s{w:World}(h:Inv w0 S0 Fs bl sl w)(o:Obj)(s:OwnS)(hv:s.blocks=[w.heap.size])(hs:s.holds (w.alloc o)):Inv w0 S0 Fs bl (s::sl) (w.alloc o):=by
 have hlt:∀b∈blks bl sl,b<w.heap.size:=fun b hb=>Xbu h.mem hb
 have hmem:∀b,b∈blks bl (s::sl)↔b=w.heap.size∨b∈blks bl sl:=fun b=>by
  simp only [blks,List.flatMap_cons,hv,List.mem_append,List.mem_cons,List.not_mem_nil,or_false]
  constructor
  ·rintro(h |h |h)<;>simp [h]
  ·rintro(h |h |h)<;>simp [h]
 refine h.change [] (by simp) (Keep.alloc w o) (fun G hG=> .inl hG) (fun p hp=>?_) (fun t ht=>?_) ?_ (fun b hb=>?_)
 ·rw[Below.heap_alloc w o p.1 (Xch (h.mem.own p hp))];exact h.mem.own p hp
 ·rcases List.mem_cons.1 ht with rfl |ht
  ·exact hs
  ·exact OwnS.same (h.mem.slh t ht) fun b hb=>Below.heap_alloc w o b (OwnS.lt (h.mem.slh t ht) b hb)
 ·have:(blks bl (s::sl)).Perm (w.heap.size::blks bl sl):=by
   simp only [blks,List.flatMap_cons,hv]
   exact List.perm_middle
  rw[this.nodup_iff,List.nodup_cons]
  exact⟨fun hm=>Nat.lt_irrefl _ (hlt _ hm),h.nodup⟩
 ·rcases(hmem b).1 hb with rfl |hb
  ·exact .inr (Nat.le_refl _)
  ·exact .inl hb
theorem Cov.lit(cs:List Value)(vs:List (Nat×Value)){d:Nat}{t el:TypeId}{n:Nat}{ps:Array (Nat×Operand)}{agg:Bool}{sz bytes:Nat}{z:List Value}(hs:Stp P K' ⟨some d, .buildSlice t n ps,ty,none⟩ K)(ht:slOf P t=some el)(hel:TyI P el agg sz bytes z)
  (hv:ps.toList.map (fun p=>(ev ρ p.2).map (p.1, ·))=vs.map some) (hcs:fillF sz (zerosL z (n*sz)) vs=some cs) (hz:Nat.blt 0 z.length=true) (hn:Nat.ble n 100=true) (hsz:Nat.ble sz 1000=true) (hd:Nat.blt d nt=true)
  (hk:∀b,w0.heap.size≤b→Cov nt w0 S0 df ((d, .slice (some ⟨b,0,none⟩) n n)::ρ) Fs bl (.s (.slice (some ⟨b,0,none⟩) n n) el sz n cs::sl) K):Cov nt w0 S0 df ρ Fs bl sl K':=fun a w hf hi=>by
 have hz':0<z.length:=by simpa [Nat.blt_eq] using hz
 have hn':n≤100:=by simpa [Nat.ble_eq] using hn
 have hsz':sz≤1000:=by simpa [Nat.ble_eq] using hsz
 have hmul:n*sz≤100*1000:=Nat.mul_le_mul hn' hsz'
 have hlen:cs.length=n*sz:=by rw[Xc3 hcs];simp [zerosL]
 refine hs a w ?_
 unfold Oper.wp
 have hps:(ps.map fun p=>(p.1,a.eval p.2))=vs.toArray:=by
  rw[← Array.toList_inj];simpa using Xh4 (fun x u hx=>X10 hf hx) _ _ hv
 have hrun:(execOp a.eval (⟨some d, .buildSlice t n ps,ty,none⟩:OpX).oper).run P w= .ok (.value (.slice (some ⟨w.heap.size,0,none⟩) n n)) (w.alloc (.cells cs.toArray el)):=by
  simp only [OpX.oper,execOp]
  rw[show(ps.map fun(i,x)=>(i,a.eval x))=vs.toArray from hps]
  refine X89 ?_
  obtain⟨zv,hz1,hz2⟩:=Xdy hel.z w
  unfold Instr.buildSlice
  rw[Sem.run_bind,run_underlying (X5x ht)]
  simp only [Result.andThen_ok]
  rw[Sem.run_bind,X1k hel.sz]
  simp only [Result.andThen_ok]
  have hlim:¬(n*sz>2 ^ 24):=Nat.not_lt.2 (Nat.le_trans hmul (by decide))
  rw[if_neg hlim]
  by_cases h0:n*sz=0
  ·rw[if_pos h0]
   rw[Sem.run_bind,Sem.run_pure]
   simp only [Result.andThen_ok]
   have:((Array.range (n*sz)).map ((#[]:Array Value)[· %(#[]:Array Value).size]!))=(zerosL z (n*sz)).toArray:=by
    rw[h0];simp [zerosL]
   rw[this,Xe0 sz vs _,hcs]
   simp [newRow]
  ·rw[if_neg h0]
   rw[Sem.run_bind,hz1]
   simp only [Result.andThen_ok,hz2]
   rw[Sem.run_bind,Sem.run_pure]
   simp only [Result.andThen_ok]
   rw[Xiq z _ hz',Xe0 sz vs _,hcs]
   simp [newRow]
 rw[hrun]
 refine hk _ hi.keep.size _ _ (hf.put hd _) (hi.alloc_s _ _ rfl ?_)
 have:=World.ownsRow_lit (base:=0) (e:=el) (size:=sz) w cs.toArray n (Nat.zero_le _) (by simp only [maxLen];omega) (by simpa using hlen)
 simpa [OwnS.holds] using this
theorem Cov.own_nil(T:TypeId)(sz:Nat)(h:Cov nt w0 S0 df ρ Fs bl (.s (.slice none 0 0) T sz 0 []::sl) K):Cov nt w0 S0 df ρ Fs bl sl K:=fun a w hf hi=>by
 have hb:blks bl (.s (.slice none 0 0) T sz 0 []::sl)=blks bl sl:=by simp [blks,OwnS.blocks,Value.ownBlock]
 refine h a w hf (hi.change [] (by simp) (Keep.refl w []) (fun G hG=> .inl hG) hi.mem.own (fun s hs=>?_) (by rw[hb];exact hi.nodup) (fun b hx=> .inl (by rwa [hb] at hx)))
 rcases List.mem_cons.1 hs with rfl |hs
 ·exact World.ownsRow_nil w 0 T sz
 ·exact hi.mem.slh s hs
theorem X2y{sz:Nat}:∀(xss:List (List Value))(i:Nat)(x:List Value)(j:Nat)(v:Value),(∀x∈xss,x.length=sz)→xss[i]?=some x→x[j]?=some v→xss.flatten[i*sz+j]?=some v
 | [],i,x,j,v,_,hi,_=>by simp at hi
 |y::xss,0,x,j,v,h,hi,hj=>by
  simp only [List.getElem?_cons_zero,Option.some.injEq] at hi
  subst hi
  simp only [List.flatten_cons,Nat.zero_mul,Nat.zero_add]
  have:j<y.length:=by rcases Nat.lt_or_ge j y.length with h |h;exact h;rw[List.getElem?_eq_none h] at hj;cases hj
  rw[List.getElem?_append_left this];exact hj
 |y::xss,i+1,x,j,v,h,hi,hj=>by
  simp only [List.getElem?_cons_succ] at hi
  have hy:=h y List.mem_cons_self
  simp only [List.flatten_cons]
  rw[List.getElem?_append_right (by rw[hy,Nat.add_mul];omega)]
  rw[hy,show(i+1)*sz+j-sz=i*sz+j from by rw[Nat.add_mul];omega]
  exact X2y xss i x j v (fun x hx=>h x (List.mem_cons_of_mem _ hx)) hi hj
def Bd(w0:World)(S0:List Nat)(Fin:List Hp)(G:Hp):Prop:=∀b o,G b=some o→w0.heap.size≤b∨b∈S0∨∃F∈Fin,F b=some o
def Ext(Fs:List Hp)(G':Hp):Prop:=∀G∈Fs,∀b o,G b=some o→G' b=some o
theorem Bd.fin{G:Hp}(h:G∈Fin):Bd w0 S0 Fin G:=fun _ _ hb=> .inr (.inr ⟨G,h,hb⟩)
theorem Bd.fresh{G:Hp}(h:Fresh w0 G):Bd w0 S0 Fin G:=fun b o hb=> .inl (h b o hb)
theorem Xh7:∀G∈Fin,Bd w0 S0 Fin G:=fun _ h=> .fin h
theorem Xe1{G:Hp}(h:Bd w0 S0 Fin G)(hs:∀G∈Fs,Bd w0 S0 Fin G):∀G'∈G::Fs,Bd w0 S0 Fin G':=fun G' hG=>by
 rcases List.mem_cons.1 hG with rfl |hG
 ·exact h
 ·exact hs _ hG
theorem Cov.union(hbd:∀G∈Fs,Bd w0 S0 Fin G)(hk:∀G',Ext Fs G'→Bd w0 S0 Fin G'→Cov nt w0 S0 df ρ (G'::Fs) bl sl K):Cov nt w0 S0 df ρ Fs bl sl K:=fun a w hf hi=>by
 classical
 let G':Hp:=fun b=>if ∃G∈Fs,(G b).isSome then w.heap[b]? else none
 have h1:Ext Fs G':=fun G hG b o hb=>by
  show(if _ then _ else _)=_
  rw[if_pos ⟨G,hG,by rw[hb];rfl⟩]
  exact hi.mem.fs G hG b o hb
 have h2:∀b o,G' b=some o→∃G∈Fs,G b=some o:=fun b o hb=>by
  have hb':(if ∃G∈Fs,(G b).isSome then w.heap[b]? else none)=some o:=hb
  split at hb'
  ·rename_i he
   obtain⟨G,hG,hs⟩:=he
   obtain⟨o',ho'⟩:=Option.isSome_iff_exists.1 hs
   have:=hi.mem.fs G hG b o' ho'
   rw[this] at hb'
   cases hb'
   exact⟨G,hG,ho'⟩
  ·cases hb'
 refine hk G' h1 (fun b o hb=>?_) a w hf (hi.change [] (by simp) (Keep.refl w []) (fun G hG=>?_) hi.mem.own hi.mem.slh hi.nodup (fun b hb=> .inl hb))
 ·obtain⟨G,hG,hg⟩:=h2 b o hb
  exact hbd G hG b o hg
 ·rcases List.mem_cons.1 hG with rfl |hG
  ·refine .inr ⟨fun b o hb=>?_,fun b hb=>?_⟩
   ·obtain⟨G,hG,hg⟩:=h2 b o hb
    exact hi.mem.fs G hG b o hg
   ·cases hg:G' b with
    |none=>rfl
    |some o=>
     obtain⟨G,hG,hg'⟩:=h2 b o hg
     rw[hi.apart b hb G hG] at hg'
     cases hg'
  ·exact .inl hG
theorem Cov.freezeS(i:Nat)(xss:List (List Value)){v:Value}{T:TypeId}{sz n:Nat}{cs:List Value}(hs:sl[i]?=some (.s v T sz n cs))(hx:cs=xss.flatten)(hn:xss.length=n)(hsz:∀x∈xss,x.length=sz)(sl':List OwnS)(hsl:sl.eraseIdx i=sl')
  (hk:∀G,(∀Fin,Bd w0 S0 Fin G)→Sl G sz v xss→Cov nt w0 S0 df ρ (G::Fs) bl sl' K):Cov nt w0 S0 df ρ Fs bl sl K:=fun a w hf hi=>by
 subst hsl hx hn
 have hsm:OwnS.s v T sz xss.length xss.flatten∈sl:=List.mem_of_getElem? hs
 have hperm:=X6p sl i _ hs
 have hsub:(blks bl (sl.eraseIdx i)).Sublist (blks bl sl):=(List.Sublist.refl _).append (Xcm _ (List.eraseIdx_sublist sl i))
 have key:∀G:Hp,(∀Fin,Bd w0 S0 Fin G)→Sl G sz v xss→HpIn G w→(∀b∈blks bl (sl.eraseIdx i),G b=none)→K a w:=fun G h1 h2 h3 h4=>by
  refine hk G h1 h2 a w hf (hi.change [] (by simp) (Keep.refl w []) (fun G' hG=>?_) hi.mem.own (fun s h=>hi.mem.slh s (List.mem_of_mem_eraseIdx h)) (hi.nodup.sublist hsub) (fun b hb=> .inl (hsub.subset hb)))
  rcases List.mem_cons.1 hG with rfl |hG
  ·exact .inr ⟨h3,h4⟩
  ·exact .inl hG
 have hh:w.ownsRow 0 T sz v xss.length xss.flatten:=hi.mem.slh _ hsm
 rcases hh.2 with ⟨rfl,hn0⟩ | ⟨g,cap,cur,rfl,_,hg,hnc,_,hcs,htake⟩
 ·have:xss=[]:=List.eq_nil_of_length_eq_zero hn0
  subst this
  exact key empHp (fun _ _ _ h=>by simp [empHp] at h) (Sl.nil _ _) (fun _ _ h=>by simp [empHp] at h) (fun _ _=>rfl)
 ·have hblk:g∈blks bl sl:=List.mem_append_right _ (List.mem_flatMap.2 ⟨_,hsm,by simp [OwnS.blocks,Value.ownBlock]⟩)
  have hp2:(blks bl sl).Perm (g::blks bl (sl.eraseIdx i)):=by
   have h1:=(hperm.flatMap_right OwnS.blocks).append_left (bl.map (·.1))
   refine h1.trans ?_
   simp only [List.flatMap_cons,OwnS.blocks,Value.ownBlock,Option.toList]
   exact List.perm_middle
  have hnd:=List.nodup_cons.1 (hp2.nodup_iff.1 hi.nodup)
  refine key (single g (.cells cur T (0,0))) (fun Fin b o hb=>?_) ⟨some ⟨g,0,none⟩,cap,rfl,hnc,hsz,fun _=>⟨g,0,rfl,fun j x hj m u hm=>?_⟩⟩ (fun b o hb=>?_) (fun b hb=>?_)
  ·unfold single at hb
   split at hb
   ·rename_i e
    subst e
    rcases hi.mine b hblk with h |h
    ·exact .inr (.inl h)
    ·exact .inl h
   ·cases hb
  ·have h1:=X2y xss j x m u hsz hj hm
   have hlt:j<xss.length:=by rcases Nat.lt_or_ge j xss.length with h |h;exact h;rw[List.getElem?_eq_none h] at hj;cases hj
   have hx:=hsz x (List.mem_of_getElem? hj)
   have hlm:m<x.length:=by rcases Nat.lt_or_ge m x.length with h |h;exact h;rw[List.getElem?_eq_none h] at hm;cases hm
   have hlt2:j*sz+m<xss.length*sz:=by
    have:(j+1)*sz≤xss.length*sz:=Nat.mul_le_mul_right _ hlt
    rw[Nat.add_mul] at this
    omega
   rw[← htake,List.getElem?_take_of_lt hlt2] at h1
   simp only [rcell,single,if_true,Nat.zero_add]
   simpa using h1
  ·unfold single at hb
   split at hb
   ·rename_i e;subst e;cases hb;exact hg
   ·cases hb
  ·unfold single
   rw[if_neg]
   rintro rfl
   exact hnd.1 hb
end
end Go.Proofs.YtnfalgmfmiolbaaGreat
end

section
namespace Go.Proofs.YtnfalgmfmiolbaaGreat
open Go.RowKit Go.ChangeShapes Go.WideShapes Go.Deep
def Tr(P:Program)(W:World)(t:TypeId)(cs:List Value):Prop:=∃(H:Type)(enc:TypeId×Value→H)(n:Nat)(x:DataW H×List MemPlace),DataW.trod enc P W 0 (fun _=>true) true n t cs=some x
section
variable{H:Type}{enc:TypeId×Value→H}{P:Program}{W:World}{t:TypeId}{cs:List Value}
theorem Xny{v:Value}{d:DataW H}{ps:List MemPlace}(h:DataW.Trod enc P W 0 (fun _=>true) true t v d ps):Tr P W t v.cells.toList:=by
 obtain⟨n,hn⟩:=h
 exact⟨H,enc,n,_,hn⟩
theorem Xir{a:Option Addr}{n cap:Nat}{d:DataW H}{ps:List MemPlace}(h:DataW.Trod enc P W 0 (fun _=>true) true t (.slice a n cap) d ps):Tr P W t [.slice a n cap]:=by
 have:=Xny h
 simpa [Value.cells] using this
theorem Tr.int{k:IntKind}(h:Tr P W t cs)(ht:P.underlying t=some (.int k)):∃n,cs=[.int k n]∧(Lit.int k n).wf=true:=by
 obtain⟨H,enc,n,x,h⟩:=h
 obtain⟨m,h1,_,h2⟩:=DataW.trod_int ht h
 exact⟨m,h1,h2⟩
theorem Tr.bool(h:Tr P W t cs)(ht:P.underlying t=some .bool):∃b,cs=[.bool b]:=by
 obtain⟨H,enc,n,x,h⟩:=h
 obtain⟨m,h1,_⟩:=DataW.trod_bool ht h
 exact⟨m,h1⟩
theorem Tr.len{fs:Array Field}{m:Nat}(h:Tr P W t cs)(ht:P.underlying t=some (.struct fs))(hm:P.cellsOf t=m):cs.length=m:=by
 obtain⟨H,enc,n,x,h⟩:=h
 obtain⟨_,_,_,_,h1,_⟩:=DataW.trod_struct ht h
 rw[h1,hm]
theorem Tr.slice{e:TypeId}{sz:Nat}(h:Tr P W t cs)(ht:P.underlying t=some (.slice e))(hsz:P.cellsOf e=sz)(hpos:0<sz):∃a n cap xss,cs=[.slice a n cap]∧Sl (whole W) sz (.slice a n cap) xss∧(∀x∈xss,Tr P W e x)∧n≤maxLen∧xss.length=n:=by
 obtain⟨H,enc,fuel,x,h⟩:=h
 rcases open_slice ht h with ⟨rfl,_⟩ | ⟨a,n,cap,m,f,D,Pl,rfl,_,hl,hmx,hm,_,hel⟩
 ·exact⟨none,0,0,[],rfl,Sl.nil _ _,by simp,by simp [maxLen],rfl⟩
 ·rw[hsz] at hel
  simp only [if_true] at hm
  obtain rfl:=hm.symm
  obtain⟨X,hX⟩:=choose_lt (α:=List Value) (fun i hi=>hel i (Nat.lt_of_lt_of_le hi hl))
  have hlen:∀i,i<n→(X i).length=sz:=fun i hi=>by
   obtain⟨_,h1,_⟩:=World.cells?_some (hX i hi).1
   exact h1
  have hcell:∀i,i<n→∀j c,(X i)[j]?=some c→W.cell? ((a.add (i*sz)).add j)=some c:=fun i hi j c hj=>by
   obtain⟨_,h1,h2⟩:=World.cells?_some (hX i hi).1
   have hjl:j<(X i).length:=by rcases Nat.lt_or_ge j (X i).length with h |h;exact h;rw[List.getElem?_eq_none h] at hj;cases hj
   exact(h2 j (by omega)).trans hj
  refine⟨some a,n,cap,(List.range n).map X,rfl,⟨some a,cap,by simp,by simpa using hl,fun x hx=>?_,fun hne=>?_⟩,fun x hx=>?_,by omega,by simp⟩
  ·obtain⟨i,hi,rfl⟩:=List.mem_map.1 hx
   exact hlen i (List.mem_range.1 hi)
  ·have hn:0<n:=by
    rcases Nat.eq_zero_or_pos n with h0 |h0
    ·subst h0;simp at hne
    ·exact h0
   have h0:∃c,(X 0)[0]?=some c:=by
    have:=hlen 0 hn
    exact⟨(X 0)[0]'(by omega),List.getElem?_eq_getElem _⟩
   obtain⟨c0,hc0⟩:=h0
   have hc:=hcell 0 hn 0 c0 hc0
   have ha:(a.add (0*sz)).add 0=a:=by simp [Addr.add]
   rw[ha] at hc
   obtain⟨b,o,sp⟩:=a
   obtain⟨rfl,_⟩:=Xdp hc
   refine⟨b,o,rfl,fun i x hi j c hj=>?_⟩
   rw[List.getElem?_map] at hi
   have hin:i<n:=by
    rcases Nat.lt_or_ge i n with h |h
    ·exact h
    ·rw[List.getElem?_eq_none (by simpa using h)] at hi;cases hi
   rw[List.getElem?_range hin] at hi
   simp only [Option.map_some,Option.some.injEq] at hi
   subst hi
   have:=hcell i hin j c hj
   rw[X1h,X1h] at this
   exact(Xdp this).2
  ·obtain⟨i,hi,rfl⟩:=List.mem_map.1 hx
   have:=(hX i (List.mem_range.1 hi)).2
   exact⟨H,enc,f,_,this⟩
theorem Xgb{α:Type}{f:α→List Value}{Q:α→Prop}:∀{xss:List (List Value)},(∀x∈xss,∃y,x=f y∧Q y)→∃l:List α,xss=l.map f∧∀y∈l,Q y
 | [],_=>⟨[],rfl,by simp⟩
 |x::xss,h=>by
  obtain⟨y,rfl,hy⟩:=h x List.mem_cons_self
  obtain⟨l,rfl,hl⟩:=Xgb (fun z hz=>h z (List.mem_cons_of_mem _ hz))
  exact⟨y::l,rfl,fun z hz=>by
   rcases List.mem_cons.1 hz with rfl |hz
   ·exact hy
   ·exact hl z hz⟩
theorem Tr.sliceOf{α:Type}{e:TypeId}{sz:Nat}(f:α→List Value)(Q:α→Prop)(h:Tr P W t cs)(ht:P.underlying t=some (.slice e))(hsz:P.cellsOf e=sz)(hpos:0<sz)(hQ:∀x,Tr P W e x→∃y,x=f y∧Q y):
  ∃a n cap,∃l:List α,cs=[.slice a n cap]∧Sl (whole W) sz (.slice a n cap) (l.map f)∧(∀y∈l,Q y)∧n≤maxLen∧l.length=n:=by
 obtain⟨a,n,cap,xss,h1,h2,h3,h4,h5⟩:=h.slice ht hsz hpos
 obtain⟨l,rfl,hl⟩:=Xgb (f:=f) (Q:=Q) (fun x hx=>hQ x (h3 x hx))
 exact⟨a,n,cap,l,h1,h2,hl,h4,by simpa using h5⟩
end
end Go.Proofs.YtnfalgmfmiolbaaGreat
end

section
namespace Go.Proofs.YtnfalgmfmiolbaaGreat
open Go.RowKit
def RetG(P:Program)(f:FuncId)(args:Array Value)(Fs:List Hp)(bin:Blks)(sin:List OwnS)(Post:Value→Hp→Blks→List OwnS→Prop):Prop:=
 ∀w,(∀G∈Fs,HpIn G w)→(∀p∈bin,w.heap[p.1]?=some p.2)→(∀s∈sin,s.holds w)→(blks bin sin).Nodup→(∀b∈blks bin sin,∀G∈Fs,G b=none)→CallsV P f args w (RP w (blks bin sin) Fs Post)
theorem X8b(a b:Blks)(s t:List OwnS)(x:Nat):x∈blks (a++b) (s++t)↔x∈blks a s∨x∈blks b t:=by
 simp only [blks,List.map_append,List.flatMap_append,List.mem_append]
 constructor
 ·rintro((h |h) | (h |h))<;>simp [h]
 ·rintro((h |h) | (h |h))<;>simp [h]
theorem Xcp(a b:Blks)(s t:List OwnS):(blks (a++b) (s++t)).Perm (blks a s++blks b t):=by
 simp only [blks,List.map_append,List.flatMap_append]
 rw[List.append_assoc,List.append_assoc]
 refine List.Perm.append_left _ ?_
 rw[← List.append_assoc, ← List.append_assoc]
 exact List.perm_append_comm.append_right _
section
variable{P:Program}{c:Cx}{R:Value→World→Prop}{nt:Nat}{w0:World}{S0:List Nat}{df:List Deferred}{ρ ρ':Env}{Fs Fs' Fin:List Hp}{bl bl':Blks}{sl sl':List OwnS}
 {K K':Act→World→Prop} {k:List Item} {ty:TypeId}
theorem RetG.of{f:FuncId}{fn:Func}{code:Code}{vs:List Value}{bin:Blks}{sin:List OwnS}{Post:Value→Hp→Blks→List OwnS→Prop}(hf:P.funcs[f]?=some fn)(hb:fn.body=some code)(hn:fn.ntmps=nt)(ρ0:Env)(hρ:ArgsOk vs ρ0)(hlen:Nat.ble vs.length nt=true)
  (h:∀w0,Cov nt w0 (blks bin sin) [] ρ0 Fs bin sin (Run P ⟨f,none⟩ (RP w0 (blks bin sin) Fs Post) [.code code])):RetG P f vs.toArray Fs bin sin Post:=by
 intro w h1 h2 h2s h3 h4 cs
 have hlen':vs.length≤nt:=by simpa [Nat.ble_eq] using hlen
 obtain⟨v,w',hR,fr,hs,hfn,hl⟩:=h w {tmps:=vs.toArray++Array.replicate (nt-vs.length) undef,defers:=[]} w
  ⟨rfl,by simp;omega,fun t v ht=>by
   have:=hρ.spec t v ht
   have hlt:t<vs.length:=by rcases Nat.lt_or_ge t vs.length with h |h;exact h;rw[List.getElem?_eq_none h] at this;cases this
   simp only
   rw[Array.getElem?_append_left (by simpa using hlt)]
   simpa using this⟩
  ⟨⟨h1,h2,h2s⟩,Keep.refl w _,h3,fun b hb=> .inl hb,h4⟩ cs (by simp)
 have henter:Frame.enter P f vs.toArray .normal=(⟨f,none⟩:Cx).fr {tmps:=vs.toArray++Array.replicate (nt-vs.length) undef,defers:=[]} [.code code]:=by
  simp [Frame.enter,Cx.fr,hf,hb,hn]
 refine⟨.returned v,w',fr,⟨v,rfl,hR⟩,?_,hfn,hl⟩
 rw[henter]
 exact hs
theorem Inv.calledG{w w':World}{b1 b2:Blks}{s1 s2:List OwnS}(hi:Inv w0 S0 Fs (b1++b2) (s1++s2) w){Fr:Hp}{bo:Blks}{so:List OwnS}(hfr:Fresh w Fr)(ho:Inv w (blks b1 s1) (Fr::Fs) bo so w'):
  Inv w0 S0 (Fr::Fs) (bo++b2) (so++s2) w':=by
 have hnd:=(Xcp b1 b2 s1 s2).nodup_iff.1 hi.nodup
 have hrest:∀b∈blks b2 s2,b∈blks (b1++b2) (s1++s2)∧b ∉ blks b1 s1:=fun b hb=>
  ⟨(X8b _ _ _ _ _).2 (.inr hb),fun h=>(List.nodup_append.1 hnd).2.2 b h b hb rfl⟩
 have hlt:∀b∈blks b2 s2,b<w.heap.size:=fun b hb=>Xbu hi.mem (hrest b hb).1
 have hkeep:∀b∈blks b2 s2,w'.heap[b]?=w.heap[b]?:=fun b hb=>ho.keep.block b (hlt b hb) (hrest b hb).2
 have hD:∀b∈blks b1 s1,b∈blks (b1++b2) (s1++s2):=fun b hb=>(X8b _ _ _ _ _).2 (.inl hb)
 refine hi.change (blks b1 s1) hD ho.keep (fun G hG=>?_) (fun p hp=>?_) (fun s hs=>?_) ?_ (fun b hb=>?_)
 ·rcases List.mem_cons.1 hG with rfl |hG
  ·refine .inr ⟨ho.mem.fs _ List.mem_cons_self,fun b hb=>?_⟩
   rcases(X8b _ _ _ _ _).1 hb with h |h
   ·exact ho.apart b h _ List.mem_cons_self
   ·cases hg:G b with
    |none=>rfl
    |some o=>have:=hfr b o hg;have:=hlt b h;omega
  ·exact .inl hG
 ·rcases List.mem_append.1 hp with hp |hp
  ·exact ho.mem.own p hp
  ·rw[hkeep p.1 (List.mem_append_left _ (List.mem_map.2 ⟨p,hp,rfl⟩))]
   exact hi.mem.own p (List.mem_append_right _ hp)
 ·rcases List.mem_append.1 hs with hs |hs
  ·exact ho.mem.slh s hs
  ·exact OwnS.same (hi.mem.slh s (List.mem_append_right _ hs)) fun b hb=>hkeep b (List.mem_append_right _ (List.mem_flatMap.2 ⟨s,hs,hb⟩))
 ·rw[(Xcp bo b2 so s2).nodup_iff,List.nodup_append]
  refine⟨ho.nodup,(List.nodup_append.1 hnd).2.1,fun a ha b hb e=>?_⟩
  subst e
  rcases ho.mine a ha with h |h
  ·exact(hrest a hb).2 h
  ·have:=hlt a hb;omega
 ·rcases(X8b _ _ _ _ _).1 hb with h |h
  ·rcases ho.mine b h with h |h
   ·exact .inl (hD b h)
   ·exact .inr h
  ·exact .inl (hrest b h).1
theorem RetG.use{f:FuncId}{args:Array Value}{b1 b2:Blks}{s1 s2:List OwnS}{Post:Value→Hp→Blks→List OwnS→Prop}(hr:RetG P f args Fs b1 s1 Post){w:World}(hi:Inv w0 S0 Fs (b1++b2) (s1++s2) w):
  CallsV P f args w (RP w (blks b1 s1) Fs Post):=by
 have hnd:=(Xcp b1 b2 s1 s2).nodup_iff.1 hi.nodup
 exact hr w hi.mem.fs (fun p hp=>hi.mem.own p (List.mem_append_left _ hp)) (fun s hs=>hi.mem.slh s (List.mem_append_left _ hs)) (List.nodup_append.1 hnd).1 (fun b hb G hG=>hi.apart b ((X8b _ _ _ _ _).2 (.inl hb)) G hG)
theorem Cov.callg{b1 b2:Blks}{s1 s2:List OwnS}(vs cap:List Value){d:Nat}{f:FuncId}{fop:Operand}{args:Array Operand}{ts:Array TypeId}{Post:Value→Hp→Blks→List OwnS→Prop}(hs:Stp P K' ⟨some d, .call ⟨.value fop,args,ts⟩,ty,none⟩ K)
  (hf:ev ρ fop=some (.func (.func f) #[] cap.toArray)) (ha:args.toList.map (ev ρ)=vs.map some) (hcall:∀args w,(callFunc f args).run P w= .ok (.enter f args) w) (hbl:bl=b1++b2) (hsl:sl=s1++s2) (hr:RetG P f (vs++cap).toArray Fs b1 s1 Post) (hd:Nat.blt d nt=true)
  (hk:∀v Fr bo so,Fresh w0 Fr→Post v Fr bo so→Cov nt w0 S0 df ((d,v)::ρ) (Fr::Fs) (bo++b2) (so++s2) K):Cov nt w0 S0 df ρ Fs bl sl K':=fun a w hfi hi=>by
 subst hbl hsl
 refine hs a w ?_
 unfold Oper.wp
 have:=Xga (P:=P) (ty:=ty) (ts:=ts) (dst:=some d) (w:=w) hf ha (fun x u hx=>X10 hfi hx) hcall
 rw[show(⟨some d, .call ⟨.value fop,args,ts⟩,ty,none⟩:OpX).oper=⟨some d, .call ⟨.value fop,args,ts⟩,ty,"",#[],none⟩ from rfl,this]
 refine Calls.mono (hr.use hi) fun e w' ⟨v,he,Fr,bo,so,h1,h2,h3⟩=>?_
 subst he
 exact hk v Fr bo so (fun b o hb=>Nat.le_trans hi.keep.size (h1 b o hb)) h3 _ _ (hfi.put hd v) (hi.calledG h1 h2)
theorem Xh8(hF:∀F∈Fs,F∈Fs'):∀(rs:List ResultVar)(vs:List Value),RVs P ρ Fs bl sl rs vs→RVs P ρ Fs' bl sl rs vs
 | [],[],h=>h
 | [],_::_,h=>h.elim
 |_::_,[],h=>h.elim
 |r::rs,v::vs,h=>⟨fun nt df a w hf hm=>h.1 nt df a w hf ⟨fun G hG=>hm.fs G (hF G hG),hm.own,hm.slh⟩,Xh8 hF rs vs h.2⟩
def part(w0:World)(G:Hp):Hp:=fun b=>if w0.heap.size≤b then G b else none
theorem Xdq(w0:World)(G:Hp):Fresh w0 (part w0 G):=fun b o h=>by
 unfold part at h;split at h
 ·assumption
 ·cases h
theorem Xgc{G G':Hp}(h:Bd w0 S0 Fin G)(hS:∀b∈S0,G b=none)(he:Ext (part w0 G::Fin) G'):∀b o,G b=some o→G' b=some o:=fun b o hb=>by
 rcases h b o hb with hs |hs | ⟨F,hF,hf⟩
 ·refine he _ List.mem_cons_self b o ?_
  unfold part;rw[if_pos hs];exact hb
 ·rw[hS b hs] at hb;cases hb
 ·exact he _ (List.mem_cons_of_mem _ hF) b o hf
theorem Cov.part{G:Hp}(hG:G∈Fs)(h:Cov nt w0 S0 df ρ (part w0 G::Fs) bl sl K):Cov nt w0 S0 df ρ Fs bl sl K:=fun a w hf hi=>
 h a w hf (hi.change [] (by simp) (Keep.refl w []) (fun F hF=>by
  rcases List.mem_cons.1 hF with rfl |hF
  ·refine .inr ⟨fun b o hb=>?_,fun b hb=>?_⟩
   ·unfold Proofs.YtnfalgmfmiolbaaGreat.part at hb;split at hb
    ·exact hi.mem.fs G hG b o hb
    ·cases hb
   ·unfold Proofs.YtnfalgmfmiolbaaGreat.part;split
    ·exact hi.apart b hb G hG
    ·rfl
  ·exact .inl hF) hi.mem.own hi.mem.slh hi.nodup (fun _ hx=> .inl hx))
end
end Go.Proofs.YtnfalgmfmiolbaaGreat
end

section
namespace Go.Proofs.YtnfalgmfmiolbaaGreat
open Go.RowKit
theorem Xc4{w:World}{base T sz n:Nat}{v:Value}{cs:List Value}(h:w.ownsRow base T sz v n cs):w.ownsRow 0 T sz v n cs:=by
 refine⟨h.1,?_⟩
 rcases h.2 with h | ⟨g,cap,cur,h1,_,h2⟩
 ·exact .inl h
 ·exact .inr ⟨g,cap,cur,h1,Nat.zero_le _,h2⟩
theorem TyI.info{P:Program}{t:TypeId}{agg:Bool}{sz bytes:Nat}{z:List Value}(h:TyI P t agg sz bytes z):∃i zv,P.info? t=some i∧i.zero=some zv∧i.size=sz∧i.bytes=bytes∧zv.cells=z.toArray:=by
 have h1:=h.sz;have h2:=h.by_;have h3:=h.z
 unfold szOf at h1;unfold byOf at h2;unfold zOf at h3
 cases hi:P.info? t with
 |none=>simp [hi] at h1
 |some i=>
  simp only [hi,Option.map_some,Option.some.injEq] at h1 h2
  cases hz:i.zero with
  |none=>simp [hi,hz] at h3
  |some zv=>
   simp only [hi,hz,Option.bind_some,Option.map_some,Option.some.injEq] at h3
   exact⟨i,zv,rfl,hz,h1,h2,by rw[← h3]⟩
section
variable{P:Program}{c:Cx}{R:Value→World→Prop}{nt:Nat}{w0:World}{S0:List Nat}{df:List Deferred}{ρ ρ':Env}{Fs Fs' Fin:List Hp}{bl bl':Blks}{sl sl':List OwnS}
 {K K':Act→World→Prop} {k:List Item} {ty:TypeId}
theorem Keep.of_grown{w w':World}{r:Option Nat}(h:w.grownBy w' r):Keep w r.toList w':=
 ⟨h.os,h.tape,h.output,h.size,fun b hb hn=>h.block b hb (fun e=>hn (by simp [← e]))⟩
theorem Xaf{w:World}{t e:TypeId}{agg:Bool}{sz bytes:Nat}{z:List Value}(ht:slOf P t=some e)(hel:TyI P e agg sz bytes z)(hz:z.length=sz)(hsz:0<sz){v:Value}{n:Nat}{xs:List Value}(hown:w.ownsRow 0 e sz v n xs)
  {a:Option Addr} {m c:Nat} {news:List Value} (ha:a=none→m=0) (hl:news.length=m*sz) (hnews:∀ad,a=some ad→∀(j:Nat) u,news[j]?=some u→w.cell? (ad.add j)=some u) (h1:∀u∈news,u.oneCell'=true)
  (hb:n+m≤16777216) (hby:bytes≤8388608):
  ∃a' cap' w',(Builtin.append_ #[t,t] ty #[v, .slice a m c]).run P w= .ok (.slice a' (n+m) cap') w'∧w'.ownsRow 0 e sz (.slice a' (n+m) cap') (n+m) (xs++news)∧Keep w v.ownBlock.toList w'∧
   (∀b,(Value.slice a' (n+m) cap').ownBlock=some b→v.ownBlock=some b∨w.heap.size≤b):=by
 have hu:=X5x ht
 obtain⟨i,zv,hi,hzi,hs1,hs2,hzc⟩:=hel.info
 have h63:n+m≤maxLen:=by simp only [maxLen];omega
 have hbytes:(n+m)*bytes≤140737488355328:=Nat.le_trans (Nat.mul_le_mul hb hby) (by decide)
 have hzs:zv.cells.size=sz:=by rw[hzc];simpa using hz
 have form:∀{v':Value}{w':World}{base:Nat}{cs:List Value},w'.ownsRow base e sz v' (n+m) cs→∃a' cap',v'= .slice a' (n+m) cap':=fun h=>by
  rcases h.2 with ⟨rfl,h0⟩ | ⟨g,cap,cur,rfl,_⟩
  ·exact⟨none,0,by rw[h0]⟩
  ·exact⟨_,_,rfl⟩
 have fresh:∀{v':Value}{w':World}{cs:List Value},w'.ownsRow w.heap.size e sz v' (n+m) cs→∀b,v'.ownBlock=some b→w.heap.size≤b:=fun h b hb=>(h.lt b hb).1
 cases a with
 |none=>
  have hm:=ha rfl
  subst hm
  have hn0:news=[]:=List.eq_nil_of_length_eq_zero (by simpa using hl)
  subst hn0
  simp only [Nat.add_zero,List.append_nil]
  rcases hown.2 with ⟨rfl,hn⟩ | ⟨g,cap,cur,rfl,_,_,hnc,_⟩
  ·subst hn
   refine⟨none,0,w,?_,hown,Keep.refl _ _,fun b hb=> .inl hb⟩
   simp [Builtin.append_,run_underlying hu,sizeOf,typeInfo,hi,Builtin.lenOf,Builtin.firstCells]
  ·refine⟨_,cap,w,?_,hown,Keep.refl _ _,fun b hb=> .inl hb⟩
   simp [Builtin.append_,run_underlying hu,sizeOf,typeInfo,hi,Builtin.lenOf,Builtin.firstCells,hnc,storeCells]
 |some ad=>
  have hnews':=hnews ad rfl
  rcases hown.2 with ⟨rfl,hn⟩ | ⟨g,cap,cur,rfl,_,hg,hnc,hcm,hcs,htake⟩
  ·subst hn
   have hx:xs=[]:=List.eq_nil_of_length_eq_zero (by simpa using hown.1)
   subst hx
   obtain⟨v',w',hr,ho,hgr,_⟩:=run_append_own (P:=P) w w.heap.size t ty e i zv sz bytes hu hi hzi hs1 hs2 hzs hsz (.slice none 0 0) 0 [] (World.ownsRow_nil w _ e sz) ad m c news hl hnews' h1 h63 hbytes (Nat.le_refl _)
   obtain⟨a',cap',rfl⟩:=form ho
   exact⟨a',cap',w',hr,Xc4 ho,Keep.of_grown hgr,fun b hb=> .inr (fresh ho b hb)⟩
  ·by_cases hroom:n+m≤cap
   ·have hfit:n*sz+news.length≤cur.size:=by rw[hl,hcs, ← Nat.add_mul];exact Nat.mul_le_mul_right _ hroom
    subst hs1
    have hr:=run_append_room (P:=P) w t ty e i hu hi g n cap cur hg ad m c news hl hnews' h1 hroom hfit
    have hlen:(xs++news).length=(n+m)*i.size:=by rw[List.length_append,hown.1,hl,Nat.add_mul]
    refine⟨_,cap,_,hr,⟨hlen, .inr ⟨g,cap,_,rfl,Nat.zero_le _,setRow_heap w g cur _ e _ hg,hroom,hcm,?_,?_⟩⟩,⟨rfl,rfl,rfl,by simp [World.setRow],fun b _ hD=>setRow_other w g b _ (by simpa [Value.ownBlock] using hD)⟩,fun b hb=> .inl hb⟩
    ·simp only [List.size_toArray,List.length_append,List.length_take,List.length_drop,Array.length_toList]
     omega
    ·rw[htake, ← hlen]
     exact List.take_left
   ·have holds:∀(j:Nat) u,xs[j]?=some u→w.cell? ((⟨g,0,none⟩:Addr).add j)=some u:=hown.cells (g:=g) rfl
    obtain⟨v',w',hr,ho,hgr⟩:=run_append_arg_grows (P:=P) w t ty e i zv sz bytes hu hi hzi hs1 hs2 hzs hsz ⟨g,0,none⟩ n cap xs hown.1 holds ad m c news hl hnews' (by omega) h63 hbytes
    obtain⟨a',cap',rfl⟩:=form ho
    refine⟨a',cap',w',hr,Xc4 ho,?_,fun b hb=> .inr (fresh ho b hb)⟩
    have:=Keep.of_grown hgr
    exact⟨this.os,this.tape,this.output,this.size,fun b hb _=>this.block b hb (by simp)⟩
theorem X7n(f:OwnS→List Nat):∀(l:List OwnS)(i:Nat)(x y:OwnS),l[i]?=some x→((l.set i y).flatMap f).Perm (f y++(l.eraseIdx i).flatMap f)
 | [],i,x,y,h=>by simp at h
 |z::l,0,x,y,h=>by simp
 |z::l,i+1,x,y,h=>by
  simp only [List.getElem?_cons_succ] at h
  simp only [List.set_cons_succ,List.eraseIdx_cons_succ,List.flatMap_cons]
  refine((X7n f l i x y h).append_left (f z)).trans ?_
  rw[← List.append_assoc, ← List.append_assoc]
  exact List.perm_append_comm.append_right _
theorem Inv.set_s{w w':World}(h:Inv w0 S0 Fs bl sl w)(i:Nat){s s':OwnS}(hi:sl[i]?=some s)(kw:Keep w s.blocks w')(hs:s'.holds w')(hnd:s'.blocks.Nodup)(hb:∀b∈s'.blocks,b∈s.blocks∨w.heap.size≤b):Inv w0 S0 Fs bl (sl.set i s') w':=by
 have hsm:s∈sl:=List.mem_of_getElem? hi
 have hp1:(blks bl sl).Perm (s.blocks++blks bl (sl.eraseIdx i)):=by
  have h1:=((X6p sl i s hi).flatMap_right OwnS.blocks).append_left (bl.map (·.1))
  refine h1.trans ?_
  simp only [List.flatMap_cons,blks]
  rw[← List.append_assoc, ← List.append_assoc]
  exact List.perm_append_comm.append_right _
 have hp2:(blks bl (sl.set i s')).Perm (s'.blocks++blks bl (sl.eraseIdx i)):=by
  have h1:=(X7n OwnS.blocks sl i s s' hi).append_left (bl.map (·.1))
  refine h1.trans ?_
  simp only [blks]
  rw[← List.append_assoc, ← List.append_assoc]
  exact List.perm_append_comm.append_right _
 have hnd1:=List.nodup_append.1 (hp1.nodup_iff.1 h.nodup)
 have hsub:∀b∈s.blocks,b∈blks bl sl:=fun b hb=>hp1.mem_iff.2 (List.mem_append_left _ hb)
 have hrest:∀b∈blks bl (sl.eraseIdx i),b∈blks bl sl∧b ∉ s.blocks:=fun b hb=>⟨hp1.mem_iff.2 (List.mem_append_right _ hb),fun h=>hnd1.2.2 b h b hb rfl⟩
 have hkeep:∀b∈blks bl (sl.eraseIdx i),w'.heap[b]?=w.heap[b]?:=fun b hb=>kw.block b (Xbu h.mem (hrest b hb).1) (hrest b hb).2
 refine h.change s.blocks hsub kw (fun G hG=> .inl hG) (fun p hp=>?_) (fun t ht=>?_) (hp2.nodup_iff.2 (List.nodup_append.2 ⟨hnd,hnd1.2.1,fun a ha b hb2 e=>?_⟩)) (fun b hbm=>?_)
 ·rw[hkeep p.1 (List.mem_append_left _ (List.mem_map.2 ⟨p,hp,rfl⟩))];exact h.mem.own p hp
 ·obtain⟨j,hj,rfl⟩:=List.getElem_of_mem ht
  rw[List.getElem_set]
  split
  ·exact hs
  ·rename_i hne
   have hj':j<sl.length:=by simpa using hj
   refine OwnS.same (h.mem.slh _ (List.getElem_mem hj')) fun b hb=>hkeep b (List.mem_append_right _ (List.mem_flatMap.2 ⟨sl[j],?_,hb⟩))
   exact List.mem_eraseIdx_iff_getElem?.2 ⟨j,fun e=>hne e.symm,List.getElem?_eq_getElem hj'⟩
 ·subst e
  rcases hb a ha with h1 |h1
  ·exact(hrest a hb2).2 h1
  ·have:=Xbu h.mem (hrest a hb2).1;omega
 ·rcases List.mem_append.1 (hp2.mem_iff.1 hbm) with h1 |h1
  ·rcases hb b h1 with h2 |h2
   ·exact .inl (hsub b h2)
   ·exact .inr h2
  ·exact .inl (hrest b h1).1
theorem X9a(v:Value):v.ownBlock.toList.Nodup:=by cases v.ownBlock<;>simp
theorem Xbb{α:Type}{f:α→List Value}{sz:Nat}(hf:∀x,(f x).length=sz):∀l:List α,(l.map f).flatten.length=l.length*sz
 | []=>by simp
 |x::l=>by simp only [List.map_cons,List.flatten_cons,List.length_append,hf,Xbb hf l,List.length_cons,Nat.add_mul];omega
theorem Cov.append{α:Type}(i:Nat)(l l2:List α)(f:α→List Value){d:Nat}{t e:TypeId}{s x:Operand}{a a2:Option Addr}{cap m c2:Nat}{G:Hp}{agg:Bool}{sz bytes:Nat}{z:List Value}
  (hs:Stp P K' ⟨some d, .call ⟨.builtin .append,#[s,x],#[t,t]⟩,ty,none⟩ K) (ht:slOf P t=some e) (hel:TyI P e agg sz bytes z) (hz:z.length=sz) (hsz:Nat.blt 0 sz=true) (hby:Nat.ble bytes 8388608=true)
  (hi:sl[i]?=some (.s (.slice a l.length cap) e sz l.length (l.map f).flatten)) (he:ev ρ s=some (.slice a l.length cap)) (hx:ev ρ x=some (.slice a2 m c2)) (hsl:Sl G sz (.slice a2 m c2) (l2.map f)) (hG:G∈Fs)
  (hone:∀x∈l2,(f x).all (·.oneCell')=true) (hb:l.length+l2.length≤16777216) (hd:Nat.blt d nt=true)
  (hk:∀a' cap',Cov nt w0 S0 df ((d, .slice a' (l++l2).length cap')::ρ) Fs bl (sl.set i (.s (.slice a' (l++l2).length cap') e sz (l++l2).length ((l++l2).map f).flatten)) K):Cov nt w0 S0 df ρ Fs bl sl K':=fun a w hfi hinv=>by
 refine hs a w ?_
 have hown:w.ownsRow 0 e sz _ _ _:=hinv.mem.slh _ (List.mem_of_getElem? hi)
 obtain⟨a3,c3,hv,hlc,hls,hc⟩:=hsl
 simp only [List.length_map,Value.slice.injEq] at hv hlc
 obtain⟨rfl,rfl,rfl⟩:=hv
 have hfl:(l2.map f).flatten.length=l2.length*sz:=by
  have:∀l2:List α,(∀x∈l2.map f,x.length=sz)→(l2.map f).flatten.length=l2.length*sz:=by
   intro l2
   induction l2 with
   |nil=>simp
   |cons x l2 ih=>
    intro h
    simp only [List.map_cons,List.flatten_cons,List.length_append,List.length_cons,Nat.add_mul,Nat.one_mul]
    rw[ih (fun y hy=>h y (by simp [hy])),h (f x) (by simp)];omega
  exact this l2 hls
 obtain⟨a',cap',w',hr,ho,kw,hfr⟩:=Xaf (P:=P) (ty:=ty) (w:=w) ht hel hz (by simpa [Nat.blt_eq] using hsz) hown (a:=a2) (m:=l2.length) (c:=c2) (news:=(l2.map f).flatten)
  (fun hn=>by
   cases l2 with
   |nil=>rfl
   |cons y l2=>obtain⟨b,o,hbo,_⟩:=hc (by simp);rw[hn] at hbo;cases hbo)
  hfl
  (fun ad had j u hj=>by
   cases l2 with
   |nil=>simp at hj
   |cons y l2=>
    obtain⟨b,o,hbo,hcc⟩:=hc (by simp)
    rw[had] at hbo
    obtain rfl:=Option.some.inj hbo
    rw[X1h]
    have hpos:0<sz:=by simpa [Nat.blt_eq] using hsz
    have hlt:j<(y::l2).length*sz:=by
     rw[← hfl]
     rcases Nat.lt_or_ge j (((y::l2).map f).flatten.length) with h |h
     ·exact h
     ·rw[List.getElem?_eq_none h] at hj;cases hj
    have hq:j/sz<(y::l2).length:=Nat.div_lt_of_lt_mul (by rw[Nat.mul_comm];exact hlt)
    have hm:j%sz<sz:=Nat.mod_lt _ hpos
    have hxq:((y::l2).map f)[j/sz]?=some (f ((y::l2)[j/sz])):=by rw[List.getElem?_map,List.getElem?_eq_getElem hq];rfl
    have hlen:(f ((y::l2)[j/sz])).length=sz:=hls _ (List.mem_map.2 ⟨_,List.getElem_mem hq,rfl⟩)
    have hg:=X2y ((y::l2).map f) (j/sz) _ (j%sz) ((f ((y::l2)[j/sz]))[j%sz]'(by omega)) hls hxq (List.getElem?_eq_getElem _)
    rw[show j/sz*sz+j%sz=j from by rw[Nat.mul_comm];exact Nat.div_add_mod j sz] at hg
    rw[hg] at hj
    have:=hcc (j/sz) _ hxq (j%sz) u (by rw[List.getElem?_eq_getElem (by omega)];exact hj)
    rw[Nat.add_assoc,show j/sz*sz+j%sz=j from by rw[Nat.mul_comm];exact Nat.div_add_mod j sz] at this
    exact(hinv.mem.fs G hG).cell this)
  (fun u hu=>by
   obtain⟨y,hy,huy⟩:=List.mem_flatten.1 hu
   obtain⟨x,hxm,rfl⟩:=List.mem_map.1 hy
   exact List.all_eq_true.1 (hone x hxm) u huy) hb (by simpa [Nat.ble_eq] using hby)
 have hrun:(execOp a.eval (⟨some d, .call ⟨.builtin .append,#[s,x],#[t,t]⟩,ty,none⟩:OpX).oper).run P w= .ok (.value (.slice a' (l.length+l2.length) cap')) w':=by
  refine X6o (X89 (s:=Builtin.append_ #[t,t] ty (#[s,x].map a.eval)) ?_)
  rw[show #[s,x].map a.eval=#[a.eval s,a.eval x] from by simp,X10 hfi he,X10 hfi hx]
  exact hr
 unfold Oper.wp
 rw[hrun]
 have hk':=hk a' cap'
 simp only [List.length_append,List.map_append,List.flatten_append] at hk'
 refine hk' _ _ (hfi.put hd _) (hinv.set_s i hi kw ho (X9a _) fun b hb=>?_)
 simp only [OwnS.blocks,Option.mem_toList] at hb ⊢
 exact hfr b hb
theorem Xis{α:Type}{w:World}{T sz:Nat}{l:List α}{f:α→List Value}{a:Option Addr}{cap:Nat}(h:w.ownsRow 0 T sz (.slice a l.length cap) l.length (l.map f).flatten)(hl:0<l.length):∃g cur,a=some ⟨g,0,none⟩∧w.heap[g]?=some (.cells cur T (0,0))∧cur.toList.take (l.length*sz)=(l.map f).flatten∧cur.size=cap*sz∧l.length≤cap:=by
 rcases h.2 with ⟨_,h0⟩ | ⟨g,cap',cur,h1,_,h2,h3,_,h4,h5⟩
 ·omega
 ·cases h1
  exact⟨g,cur,rfl,h2,h5,h4,h3⟩
end
end Go.Proofs.YtnfalgmfmiolbaaGreat
end

section
namespace Go.Proofs.YtnfalgmfmiolbaaGreat
open Go.RowKit
def Yields(P:Program)(y:Value)(N:Nat)(V:Nat→List Value→Prop)(Fs:List Hp)(𝒢 :Nat→Guest→Prop):Prop:=
 ∃l,y= .func (.yield l) #[] #[]∧∀(i:Nat)(v:List Value),V i v→∀R, 𝒢 i R→∀w,(∀G∈Fs,HpIn G w)→R.holds w→
  ∃f tmps as1 body,(Instr.yield l v.toArray).run P w= .ok (.round l f tmps as1 body) w∧
   RoundV P l f tmps as1 body w fun r w'=>r= .bool true∧∃R', 𝒢 (i+1) R'∧R'.holds w'∧Keep w R.blks w'∧∀b∈R'.blks,b∈R.blks∨w.heap.size≤b
def Iter(P:Program)(f:FuncId)(cap:List Value)(Fs:List Hp)(N:Nat)(V:Nat→List Value→Prop):Prop:=
 ∀(y:Value)(𝒢 :Nat→Guest→Prop)(R0:Guest),Yields P y N V Fs 𝒢 → 𝒢 0 R0→RetG P f (y::cap).toArray Fs [] [.g R0] fun _ _ bl sl=>bl=[]∧∃R, 𝒢 N R∧sl=[.g R]
section
variable{P:Program}{c:Cx}{R0:Value→World→Prop}{nt:Nat}{w0:World}{S0:List Nat}{df:List Deferred}{ρ ρ':Env}{Fs Fs' Fin:List Hp}{bl bl' bls:Blks}{sl sl' sls:List OwnS}
 {K K':Act→World→Prop} {k:List Item} {ty:TypeId}
theorem Cov.yield{y:Value}{N:Nat}{V:Nat→List Value→Prop}{F0:List Hp}{𝒢 :Nat→Guest→Prop}{i:Nat}{R:Guest}{v:List Value}{d:Nat}{fop:Operand}{args:Array Operand}{ts:Array TypeId}{os:List OpX}
  (hy:Yields P y N V F0 𝒢) (hi:V i v) (hR: 𝒢 i R) (hF:∀G∈F0,G∈Fs) (hf:ev ρ fop=some y) (ha:args.toList.map (ev ρ)=v.map some) (hd:Nat.blt d nt=true)
  (hk:∀R', 𝒢 (i+1) R'→Cov nt w0 S0 df ((d, .bool true)::ρ) Fs bl (.g R'::sl) (RO P c R0 os k)):
  Cov nt w0 S0 df ρ Fs bl (.g R::sl) (RO P c R0 (⟨some d, .call ⟨.value fop,args,ts⟩,ty,none⟩::os) k):=fun a w hfi hinv=>by
 simp only [RO,wantedT,if_true]
 refine .inr ?_
 obtain⟨l,rfl,hy⟩:=hy
 obtain⟨f,tmps,as1,body,hr,hround⟩:=hy i v hi R hR w (fun G hG=>hinv.mem.fs G (hF G hG)) (hinv.mem.slh _ List.mem_cons_self)
 have key:∀(l:List Operand)(vl:List Value),l.map (ev ρ)=vl.map some→l.map a.eval=vl:=by
  intro l
  induction l with
  |nil=>intro vl h;cases vl<;>simp at h ⊢
  |cons x l ih=>
   intro vl h
   cases vl with
   |nil=>simp at h
   |cons v vl=>
    simp only [List.map_cons,List.cons.injEq] at h
    simp only [List.map_cons,X10 hfi h.1,ih vl h.2]
 have h1:args.map a.eval=v.toArray:=by rw[← Array.toList_inj];simpa using key _ _ ha
 refine⟨l,f,tmps,as1,body,w,?_,?_⟩
 ·simp only [OpX.oper,execOp,resolve,h1,X10 hfi hf,Deferred.ofValue]
  simp only [Sem.run_bind,Sem.run_pure,Result.andThen_ok,invoke]
  simpa using hr
 ·intro cl cs
  obtain⟨r,w',⟨rfl,R',h2,h3,h4,h5⟩,hs⟩:=hround cl cs
  refine⟨.bool true,w',?_,hs⟩
  exact hk R' h2 _ w' (hfi.put hd _) (hinv.set_s 0 (s:= .g R) (s':= .g R') rfl h4 h3 R'.nodup h5)
def Out(P:Program)(c:Cx)(R:Value→World→Prop)(a:Act)(w:World):Prop:=
 ∀items cs,∃v w',R v w'∧∃fr,Steps P (lone {c.fr a items with mode:= .returning} cs w) (lone fr cs w')∧fr.fn=c.fn∧fr.leaving P w' (.returned v)
theorem Cov.out{items:List Item}(hi:items=[]∨∃k,items= .code .ret::k)(hro:c.ro=none)(h:Cov nt w0 S0 df ρ Fs bl sl (Out P c R0)):Cov nt w0 S0 df ρ Fs bl sl (Run P c R0 items):=fun a w hf hinv cs _=>by
 obtain⟨v,w',hR,fr,hs,h1,h2⟩:=h a w hf hinv items cs
 refine⟨v,w',hR,?_⟩
 unfold Done
 simp only [hro]
 refine⟨fr, .head (step_lone_go ?_) hs,h1,h2⟩
 rcases hi with rfl | ⟨k,rfl⟩<;>simp [stepG,stepG.exec,Cx.fr,hro]
end
end Go.Proofs.YtnfalgmfmiolbaaGreat
end

section
namespace Go.Proofs.YtnfalgmfmiolbaaGreat
open Go.RowKit
theorem Xgd{α:Type}{f:α→List Value}{sz:Nat}(hf:∀x,(f x).length=sz)(d:α){off:Nat}{c:List Value}(hc:off+c.length≤sz){y:α}:∀(l:List α)(k:Nat),k<l.length→(f (l.getD k d)).take off++c++(f (l.getD k d)).drop (off+c.length)=f y→
  (l.map f).flatten.take (k*sz+off)++c++(l.map f).flatten.drop (k*sz+off+c.length)=((l.set k y).map f).flatten
 | [],k,hk,_=>by simp at hk
 |x::l,0,_,h=>by
  simp only [List.getD_cons_zero] at h
  simp only [List.map_cons,List.flatten_cons,List.set_cons_zero,Nat.zero_mul,Nat.zero_add]
  rw[List.take_append_of_le_length (by rw[hf];omega),List.drop_append_of_le_length (by rw[hf];omega), ← List.append_assoc,h]
 |x::l,k+1,hk,h=>by
  have ih:=Xgd hf d hc l k (by simpa using hk) (by simpa using h)
  simp only [List.map_cons,List.flatten_cons,List.set_cons_succ]
  rw[← ih]
  have e1:(k+1)*sz+off=(f x).length+(k*sz+off):=by rw[hf,Nat.add_mul];omega
  rw[e1,Nat.add_assoc (f x).length,List.take_append,List.drop_append]
  rw[List.take_of_length_le (l:=f x) (by omega),List.drop_of_length_le (l:=f x) (by omega)]
  simp [List.append_assoc]
section
variable{P:Program}{c:Cx}{R:Value→World→Prop}{nt:Nat}{w0:World}{S0:List Nat}{df:List Deferred}{ρ ρ':Env}{Fs Fs' Fin:List Hp}{bl bl':Blks}{sl sl':List OwnS}
 {K K':Act→World→Prop} {k:List Item} {ty:TypeId}
theorem Cov.store_o{α:Type}(i:Nat)(d:α)(y:α)(off:Nat){l:List α}{f:α→List Value}{a:Option Addr}{cap T sz j:Nat}{t:TypeId}{x u:Operand}{v:Value}{agg:Bool}{bytes:Nat}{z:List Value}(hs:Stp P K' ⟨none, .store t x u,ty,none⟩ K)
  (hi:sl[i]?=some (.s (.slice a l.length cap) T sz l.length (l.map f).flatten)) {p:Value} (hx:ev ρ x=some p) (hp:(p=elemPtr (.slice a l.length cap) j sz∧off=0)∨p=ptrAdd (elemPtr (.slice a l.length cap) j sz) off) (hu:ev ρ u=some v) (ht:TyI P t agg (cellsL v).length bytes z)
  (h1:(cellsL v).all (·.oneCell')=true) (hf:∀x,(f x).length=sz) (hj:j<l.length) (hfit:off+(cellsL v).length≤sz) (hy:(f (l.getD j d)).take off++cellsL v++(f (l.getD j d)).drop (off+(cellsL v).length)=f y)
  (sl':List OwnS) (hsl:sl.set i (.s (.slice a (l.set j y).length cap) T sz (l.set j y).length ((l.set j y).map f).flatten)=sl') (hk:Cov nt w0 S0 df ρ Fs bl sl' K):Cov nt w0 S0 df ρ Fs bl sl K':=fun a' w hfi hinv=>by
 subst hsl
 refine hs a' w ?_
 have hown:w.ownsRow 0 T sz _ _ _:=hinv.mem.slh _ (List.mem_of_getElem? hi)
 obtain⟨g,cur,rfl,hg,htake,hcs,hnc⟩:=Xis hown (by omega)
 have hlt:j*sz+off+(cellsL v).length≤l.length*sz:=by
  have:(j+1)*sz≤l.length*sz:=Nat.mul_le_mul_right _ hj
  rw[Nat.add_mul] at this
  omega
 have hcap:l.length*sz≤cap*sz:=Nat.mul_le_mul_right _ hnc
 obtain⟨w',hr,kw,hb'⟩:=Xc2 (P:=P) (cs:=cur.toList) (o:=j*sz+off) ht (by simpa using hg) h1 (by simp;omega) rfl
 have hrun:(execOp a'.eval (⟨none, .store t x u,ty,none⟩:OpX).oper).run P w= .ok .skip w':=by
  refine Xm6 (s:=Instr.storeAt t (a'.eval x) (a'.eval u)) ?_
  rw[X10 hfi hx,X10 hfi hu]
  rcases hp with ⟨rfl,rfl⟩ |rfl
  ·simp only [elemPtr,X1h,Nat.zero_add]
   exact hr
  ·simp only [elemPtr,ptrAdd,X1h,Nat.zero_add]
   exact hr
 unfold Oper.wp
 rw[hrun]
 have hfl:(l.map f).flatten.length=l.length*sz:=Xbb hf l
 have hset:=Xgd hf d hfit l j hj hy
 refine hk _ _ (hfi.put_none _) (hinv.set_s i hi (s':= .s (.slice (some ⟨g,0,none⟩) (l.set j y).length cap) T sz (l.set j y).length ((l.set j y).map f).flatten) (by simpa [OwnS.blocks,Value.ownBlock] using kw) ?_ (by simp [OwnS.blocks,Value.ownBlock]) (fun b hb=> .inl (by simpa [OwnS.blocks,Value.ownBlock] using hb)))
 have hcur:cur.toList=(l.map f).flatten++cur.toList.drop (l.length*sz):=by rw[← htake,List.take_append_drop]
 rcases hown.2 with ⟨_,h0⟩ | ⟨g2,cap2,cur2,hv,_,hg2,_,hm2,_⟩
 ·omega
 ·cases hv
  refine⟨by rw[Xbb hf], .inr ⟨g,cap,_,rfl,Nat.zero_le _,hb',by simpa using hnc,hm2,?_,?_⟩⟩
  ·simp only [List.size_toArray,List.length_append,List.length_take,List.length_drop,Array.length_toList]
   omega
  ·rw[List.length_set, ← hset]
   simp only [List.toList_toArray]
   rw[hcur]
   have e1:List.take (j*sz+off) ((l.map f).flatten++List.drop (l.length*sz) cur.toList)=List.take (j*sz+off) (l.map f).flatten:=List.take_append_of_le_length (by rw[hfl];omega)
   have e2:List.drop (j*sz+off+(cellsL v).length) ((l.map f).flatten++List.drop (l.length*sz) cur.toList)=List.drop (j*sz+off+(cellsL v).length) (l.map f).flatten++List.drop (l.length*sz) cur.toList:=List.drop_append_of_le_length (by rw[hfl];omega)
   rw[e1,e2, ← List.append_assoc]
   have e3:(List.take (j*sz+off) (l.map f).flatten++cellsL v++List.drop (j*sz+off+(cellsL v).length) (l.map f).flatten).length=l.length*sz:=by simp only [List.length_append,List.length_take,List.length_drop,hfl];omega
   exact List.take_left' e3
theorem Cov.make{α:Type}(zx:α)(f:α→List Value){d:Nat}{t el:TypeId}{x y:Operand}{n:Nat}{agg:Bool}{sz bytes:Nat}{z:List Value}(hs:Stp P K' ⟨some d, .makeSlice t x y,ty,none⟩ K)(ht:slOf P t=some el)(hel:TyI P el agg sz bytes z)(hzl:z.length=sz)(hz1:0<sz)(hzf:f zx=z)
  (hx:ev ρ x=some (.int .i64 n)) (hy:ev ρ y=some (.int .i64 n)) (hn:n≤16777216) (hby:Nat.ble bytes 8388608=true) (hd:Nat.blt d nt=true)
  (hk:∀b,w0.heap.size≤b→Cov nt w0 S0 df ((d, .slice (some ⟨b,0,none⟩) (List.replicate n zx).length n)::ρ) Fs bl (.s (.slice (some ⟨b,0,none⟩) (List.replicate n zx).length n) el sz (List.replicate n zx).length ((List.replicate n zx).map f).flatten::sl) K):Cov nt w0 S0 df ρ Fs bl sl K':=fun a w hf hi=>by
 obtain⟨i,zv,h1,h2,h3,h4,h5⟩:=hel.info
 have hby':bytes≤8388608:=by simpa [Nat.ble_eq] using hby
 have hbytes:i.bytes*n≤281474976710656:=by rw[h4];exact Nat.le_trans (Nat.mul_le_mul hby' hn) (by decide)
 have hb':(i.bytes:Int)*(n:Int)≤281474976710656:=by
  have h:((i.bytes*n:Nat):Int)≤281474976710656:=by omega
  rwa [Int.natCast_mul] at h
 have hr:=run_make (P:=P) w t el i zv (X5x ht) h1 h2 .i64 .i64 n n (by omega) (Int.le_refl _) hb' (by omega)
 simp only [Int.toNat_natCast] at hr
 have hcells:(madeCells zv.cells (n*i.size)).toList=((List.replicate n zx).map f).flatten:=by
  rw[h3,h5]
  apply List.ext_getElem?
  intro j
  have hfl:((List.replicate n zx).map f).flatten.length=n*sz:=by simp [hzf,hzl]
  by_cases hj:j<n*sz
  ·have hq:j/sz<n:=Nat.div_lt_of_lt_mul (by rw[Nat.mul_comm];exact hj)
   have hm:j%sz<sz:=Nat.mod_lt _ hz1
   have hg:=X2y (sz:=sz) ((List.replicate n zx).map f) (j/sz) z (j%sz) (z[j%sz]'(by omega)) (fun x hx=>by simp only [List.map_replicate,List.mem_replicate] at hx;rw[hx.2,hzf,hzl]) (by simp [hq,hzf]) (List.getElem?_eq_getElem _)
   rw[show j/sz*sz+j%sz=j from by rw[Nat.mul_comm];exact Nat.div_add_mod j sz] at hg
   rw[hg]
   simp [madeCells,hj,hzl,hm]
  ·rw[List.getElem?_eq_none (by simp [madeCells];omega),List.getElem?_eq_none (by rw[hfl];omega)]
 refine hs a w ?_
 unfold Oper.wp
 have hrun:(execOp a.eval (⟨some d, .makeSlice t x y,ty,none⟩:OpX).oper).run P w= .ok (.value (.slice (some ⟨w.heap.size,0,none⟩) n n)) (w.alloc (.cells (madeCells zv.cells (n*i.size)) el)):=by
  refine X89 (s:=Instr.makeSlice t (a.eval x) (a.eval y)) ?_
  rw[X10 hf hx,X10 hf hy]
  exact hr
 rw[hrun]
 have hk':=hk w.heap.size hi.keep.size
 simp only [List.length_replicate] at hk'
 refine hk' _ _ (hf.put hd _) (hi.alloc_s _ _ (by simp [OwnS.blocks,Value.ownBlock]) ?_)
 have:=World.ownsRow_lit (base:=0) (e:=el) (size:=sz) w (madeCells zv.cells (n*i.size)) n (Nat.zero_le _) (by simp only [maxLen];omega) (by rw[size_madeCells,h3])
 rw[hcells] at this
 exact this
theorem Cov.pullS(i:Nat){p:OwnS}(hp:sl[i]?=some p)(sl':List OwnS)(hsl:p::sl.eraseIdx i=sl')(h:Cov nt w0 S0 df ρ Fs bl sl' K):Cov nt w0 S0 df ρ Fs bl sl K:=fun a w hf hi=>by
 subst hsl
 exact h a w hf (hi.perm (List.Perm.refl _) (X6p sl i _ hp))
end
end Go.Proofs.YtnfalgmfmiolbaaGreat
end

section
namespace Go.Proofs.YtnfalgmfmiolbaaGreat
open Go.RowKit
def sLt(x y:ByteArray):Prop:=bLt x y=true
instance (x y:ByteArray):Decidable (sLt x y):=inferInstanceAs (Decidable (bLt x y=true))
section
variable{P:Program}{c:Cx}{R:Value→World→Prop}{nt:Nat}{w0:World}{S0:List Nat}{df:List Deferred}{ρ:Env}{Fs:List Hp}{bl:Blks}{sl:List OwnS}{k:List Item}
theorem Cov.gu_off{t:Nat}{b:Bool}{d:Nat}{op:Op}{ty:TypeId}{os:List OpX}(hg:ρ.lookup t=some undef)(hd:Nat.blt d nt=true)(h:Cov nt w0 S0 df ((d,undef)::ρ) Fs bl sl (RO P c R os k)):
  Cov nt w0 S0 df ρ Fs bl sl (RO P c R (⟨some d,op,ty,some (t,b)⟩::os) k):=fun a w hf hi=>by
 have h2:=hf.2.2 _ _ hg
 simp only [RO,wantedT,h2,undef,Bool.false_eq_true,if_false]
 exact h _ w (hf.put hd _) hi
theorem Cov.dgqu_off{C:World→Prop}{t:Nat}{b:Bool}{d:Nat}{op:Op}{ty:TypeId}{os:OX}(hg:ρ.lookup t=some undef)(hd:Nat.blt d nt=true)
  (h:Cov nt w0 S0 df ((d,undef)::ρ) Fs bl sl (DO P c R C os k)):Cov nt w0 S0 df ρ Fs bl sl (DO P c R C (.q ⟨some d,op,ty,some (t,b)⟩ os) k):=fun a w hf hi=>by
 have h3:=hf.2.2 _ _ hg
 have h4:=h _ w (hf.put hd _) hi
 simp only [DO,wantedT,h3,undef]
 exact⟨undef, .inr (by simp [undef]),h4⟩
end
section
variable{P:Program}{ρ:Env}{Fs:List Hp}{bl:Blks}{sl:List OwnS}{ty:TypeId}
theorem QOp.shr1{t u:TypeId}{x y:Operand}{k k':IntKind}{m:Int}(hx:ev ρ x=some (.int k m))(hy:ev ρ y=some (.int k' 1))(hk:1≤k.bits):QOp P ρ Fs bl sl (.binOp .shr t x y u) ty (.int k (m/2)):=
 .bin hx hy fun w=>by
  have h1:(eqGuard .shr t x y (.int k m) (.int k' 1)).run P w= .ok () w:=rfl
  rw[Sem.run_bind,h1]
  simp only [Result.andThen_ok]
  have hm:min 1 k.bits=1:=by omega
  have:Op.shift .shr k m k' 1=pure (.int k (m/2)):=by
   simp [Op.shift,hm,Int.fdiv_eq_ediv_of_nonneg]
  simp only [binOp]
  rw[this]
  rfl
end
end Go.Proofs.YtnfalgmfmiolbaaGreat
end

section
namespace Go.Proofs.YtnfalgmfmiolbaaGreat
abbrev w64(x:Int):Int:=IntKind.i64.wrap x
def lidx{α:Type}(l:List α)(i:Int):Option α:=if 0≤i then l[i.toNat]? else none
def lupd{α:Type}(l:List α)(i:Int)(y:α):Option (List α):=if 0≤i∧i<l.length then some (l.set i.toNat y) else none
def lsub{α:Type}(l:List α)(i j:Int):Option (List α):=if 0≤i∧i≤j∧j≤l.length then some ((l.drop i.toNat).take (j-i).toNat) else none
def lapp{α:Type}(l m:List α):Option (List α):=if l.length+m.length≤16777216 then some (l++m) else none
def lmk{α:Type}(n:Int)(z:α):Option (List α):=if 0≤n∧n≤16777216 then some (List.replicate n.toNat z) else none
def nz(y:Int):Option Unit:=if y=0 then none else some ()
def lcpy{α:Type}(l:List α)(i:Int)(n:Nat)(src:List α):List α:=l.take i.toNat++src.take n++l.drop (i.toNat+min src.length n)
theorem X0{α β:Type}{o:Option α}{f:α→Option β}{r:β}(h:o.bind f=some r):∃x,o=some x∧f x=some r:=by
 cases o with
 |none=>cases h
 |some x=>exact⟨x,rfl,h⟩
theorem ifT{α:Type}{c:Prop}[Decidable c]{a b r:α}(h:(if c then a else b)=r)(hc:c):a=r:=by rw[if_pos hc] at h;exact h
theorem ifF{α:Type}{c:Prop}[Decidable c]{a b r:α}(h:(if c then a else b)=r)(hc:¬c):b=r:=by rw[if_neg hc] at h;exact h
theorem ifBF{α:Type}{c:Bool}{a b r:α}(h:(if c=true then a else b)=r)(hc:c=false):b=r:=by rw[if_neg (by simp [hc])] at h;exact h
theorem X5y{α:Type}{l:List α}{i:Int}{x:α}(h:lidx l i=some x):0≤i∧i<l.length∧l[i.toNat]?=some x:=by
 unfold lidx at h
 split at h
 ·exact⟨by assumption,by have:=(List.getElem?_eq_some_iff.1 h).1;omega,h⟩
 ·cases h
theorem Xh9{α:Type}{l:List α}{i:Int}{x:α}(h0:0≤i)(h:l[i.toNat]?=some x):lidx l i=some x:=by unfold lidx;rw[if_pos h0];exact h
theorem X8c{α:Type}{l m:List α}{i:Int}{y:α}(h:lupd l i y=some m):0≤i∧i<l.length∧m=l.set i.toNat y:=by
 unfold lupd at h
 split at h
 ·rename_i hh;cases h;exact⟨hh.1,hh.2,rfl⟩
 ·cases h
theorem Xag{α:Type}{l m:List α}{i j:Int}(h:lsub l i j=some m):0≤i∧i≤j∧j≤l.length∧m=(l.drop i.toNat).take (j-i).toNat:=by
 unfold lsub at h
 split at h
 ·rename_i hh;cases h;exact⟨hh.1,hh.2.1,hh.2.2,rfl⟩
 ·cases h
theorem Xcq{α:Type}{l m k:List α}(h:lapp l m=some k):l.length+m.length≤16777216∧k=l++m:=by
 unfold lapp at h
 split at h
 ·cases h;exact⟨by assumption,rfl⟩
 ·cases h
theorem Xge{α:Type}{n:Int}{z:α}{l:List α}(h:lmk n z=some l):0≤n∧n≤16777216∧l=List.replicate n.toNat z:=by
 unfold lmk at h
 split at h
 ·rename_i hh;cases h;exact⟨hh.1,hh.2,rfl⟩
 ·cases h
theorem X2p{y:Int}{u:Unit}(h:nz y=some u):y≠0:=by
 unfold nz at h
 split at h
 ·cases h
 ·assumption
theorem w64_id{x:Int}(h1: -9223372036854775808≤x)(h2:x≤9223372036854775807):w64 x=x:=IntWalk.i64_in x ⟨h1,h2⟩
theorem X14{α:Type}{l:List α}{i:Nat}(h:l.drop i=[]):¬((i:Int)<(l.length:Int)):=by
 have:=List.drop_eq_nil_iff.1 h;omega
theorem X24{α:Type}{l xs:List α}{x:α}{i:Nat}(h:l.drop i=x::xs):(i:Int)<(l.length:Int):=by
 have:(l.drop i).length=xs.length+1:=by rw[h];rfl
 rw[List.length_drop] at this;omega
theorem X5{α:Type}{l xs:List α}{x:α}{i:Nat}(h:l.drop i=x::xs):lidx l (i:Int)=some x:=by
 refine Xh9 (by omega) ?_
 rw[Int.toNat_natCast]
 have:(l.drop i)[0]?=some x:=by rw[h];rfl
 simpa using this
theorem Xn{α:Type}{l xs:List α}{x:α}{i:Nat}(h:l.drop i=x::xs):l.drop (i+1)=xs:=by
 rw[← List.drop_drop,h];rfl
theorem Xx{α:Type}{l xs:List α}{x:α}{i:Nat}(hb:l.length≤9223372036854775807)(h:l.drop i=x::xs):IntKind.i64.wrap ((i:Int)+1)=((i+1:Nat):Int):=by
 have:=X24 h
 rw[IntWalk.i64_in _ (by omega)];omega
def shrI(k:IntKind)(x y:Int):Int:=x.fdiv (2 ^ (min y.toNat k.bits))
def andI(k:IntKind)(x y:Int):Int:=k.wrap ((BitVec.ofInt k.bits x &&& BitVec.ofInt k.bits y).toNat:Nat)
def psub(lo hi i j:Int):Option (Int×Int):=if 0≤lo∧0≤i∧i≤j∧j≤hi-lo then some (lo+i,lo+j) else none
theorem Xf3{lo hi i j:Int}{u:Int×Int}(h:psub lo hi i j=some u):0≤lo∧0≤i∧i≤j∧j≤hi-lo∧u=(lo+i,lo+j):=by
 unfold psub at h
 split at h
 ·rename_i hh;cases h;exact⟨hh.1,hh.2.1,hh.2.2.1,hh.2.2.2,rfl⟩
 ·cases h
abbrev big:Nat:=1000000000
end Go.Proofs.YtnfalgmfmiolbaaGreat
end

section
namespace Go.Proofs.YtnfalgmfmiolbaaGreat
open Go.RowKit
def HpLe(G G':Hp):Prop:=∀b o,G b=some o→G' b=some o
theorem HpLe.refl(G:Hp):HpLe G G:=fun _ _ h=>h
theorem HpLe.trans{A B C:Hp}(h:HpLe A B)(k:HpLe B C):HpLe A C:=fun b o x=>k b o (h b o x)
theorem Rp.mono{G G':Hp}{p:Value}{cs:List Value}(hg:HpLe G G')(h:Rp G p cs):Rp G' p cs:=by
 obtain⟨b,o,rfl,h⟩:=h
 refine⟨b,o,rfl,fun j c hj=>?_⟩
 have:=h j c hj
 unfold rcell at this ⊢
 cases hgb:G b with
 |none=>rw[hgb] at this;cases this
 |some ob=>rw[hgb] at this;rw[hg b ob hgb];exact this
structure Rep(α:Type) where
 sz:Nat
 r:Hp→List Value→α→Prop
 len:∀{G:Hp}{c:List Value}{x:α},r G c x→c.length=sz
 mono:∀{G G':Hp}{c:List Value}{x:α},HpLe G G'→r G c x→r G' c x
 one:∀{G:Hp}{c:List Value}{x:α},r G c x→c.all (·.oneCell')=true
def RL{α:Type}(R:Rep α)(G:Hp)(xs:List (List Value))(l:List α):Prop:=xs.length=l.length∧∀(i:Nat)(c:List Value)(x:α),xs[i]?=some c→l[i]?=some x→R.r G c x
def SlR{α:Type}(R:Rep α)(G:Hp)(a:Option Addr)(k:Nat)(l:List α):Prop:=
 l.length≤9223372036854775807∧∃xs,Sl G R.sz (.slice a l.length k) xs∧RL R G xs l
def OL{α:Type}(R:Rep α)(G:Hp)(cs:List Value)(l:List α):Prop:=
 l.length≤16777216∧∃xs:List (List Value),cs=xs.flatten∧(∀x∈xs,x.length=R.sz)∧RL R G xs l
theorem RL.mono{α:Type}{R:Rep α}{G G':Hp}{xs:List (List Value)}{l:List α}(hg:HpLe G G')(h:RL R G xs l):RL R G' xs l:=⟨h.1,fun i c x h1 h2=>R.mono hg (h.2 i c x h1 h2)⟩
theorem SlR.mono{α:Type}{R:Rep α}{G G':Hp}{a:Option Addr}{k:Nat}{l:List α}(hg:HpLe G G')(h:SlR R G a k l):SlR R G' a k l:=by
 obtain⟨hb,xs,h1,h2⟩:=h
 exact⟨hb,xs,h1.mono hg,h2.mono hg⟩
theorem OL.mono{α:Type}{R:Rep α}{G G':Hp}{cs:List Value}{l:List α}(hg:HpLe G G')(h:OL R G cs l):OL R G' cs l:=by
 obtain⟨hb,xs,h1,h3,h2⟩:=h
 exact⟨hb,xs,h1,h3,h2.mono hg⟩
def Rep.int(k:IntKind):Rep Int where
 sz:=1
 r _ c x:=c=[.int k x]
 len h:=by rw[h];rfl
 mono _ h:=h
 one h:=by rw[h];rfl
def Rep.bool:Rep Bool where
 sz:=1
 r _ c x:=c=[.bool x]
 len h:=by rw[h];rfl
 mono _ h:=h
 one h:=by rw[h];rfl
def Rep.sl{α:Type}(R:Rep α):Rep (List α) where
 sz:=1
 r G c l:=∃a k,c=[.slice a l.length k]∧SlR R G a k l
 len h:=by obtain⟨_,_,h,_⟩:=h;rw[h];rfl
 mono hg h:=by obtain⟨a,k,h,h2⟩:=h;exact⟨a,k,h,h2.mono hg⟩
 one h:=by obtain⟨_,_,h,_⟩:=h;rw[h];rfl
def Rep.pair{α β:Type}(R:Rep α)(S:Rep β):Rep (α×β) where
 sz:=R.sz+S.sz
 r G c x:=∃c1 c2,c=c1++c2∧R.r G c1 x.1∧S.r G c2 x.2
 len h:=by obtain⟨_,_,h,h1,h2⟩:=h;rw[h,List.length_append,R.len h1,S.len h2]
 mono hg h:=by obtain⟨c1,c2,h,h1,h2⟩:=h;exact⟨c1,c2,h,R.mono hg h1,S.mono hg h2⟩
 one h:=by obtain⟨_,_,h,h1,h2⟩:=h;rw[h,List.all_append,R.one h1,S.one h2];rfl
section
variable{α:Type}{Rp':Rep α}{G:Hp}{a:Option Addr}{k:Nat}{l:List α}
theorem SlR.nil:SlR Rp' G none 0 ([]:List α):=⟨by simp,[],Sl.nil G _,rfl,fun i c x h=>by simp at h⟩
theorem OL.nil:OL Rp' G [] ([]:List α):=⟨by simp,[],rfl,by simp,rfl,fun i c x h=>by simp at h⟩
theorem OL.cons{c cs:List Value}{x:α}(hb:Nat.ble l.length 16777215=true)(h:Rp'.r G c x)(ht:OL Rp' G cs l):OL Rp' G (c++cs) (x::l):=by
 obtain⟨_,xs,rfl,h3,h4,h5⟩:=ht
 have hb':l.length≤16777215:=by simpa [Nat.ble_eq] using hb
 refine⟨by simp only [List.length_cons];omega,c::xs,rfl,fun y hy=>?_,by simp [h4],fun i c' x' h1 h2=>?_⟩
 ·rcases List.mem_cons.1 hy with rfl |hy
  ·exact Rp'.len h
  ·exact h3 y hy
 ·cases i with
  |zero=>simp at h1 h2;subst h1 h2;exact h
  |succ i=>exact h5 i c' x' (by simpa using h1) (by simpa using h2)
theorem SlR.len(h:SlR Rp' G a k l):l.length≤9223372036854775807:=h.1
theorem OL.len'{cs:List Value}(h:OL Rp' G cs l):l.length≤9223372036854775807:=by have:=h.1;omega
theorem SlR.get(h:SlR Rp' G a k l){i:Int}{x:α}(hx:lidx l i=some x):∃c,Rp G (elemPtr (.slice a l.length k) i.toNat Rp'.sz) c∧Rp'.r G c x:=by
 obtain⟨_,xs,h1,h2⟩:=h
 obtain⟨h3,h4,h5⟩:=X5y hx
 have hlt:i.toNat<xs.length:=by rw[h2.1];omega
 exact⟨xs[i.toNat],h1.elem (List.getElem?_eq_getElem hlt),h2.2 _ _ _ (List.getElem?_eq_getElem hlt) h5⟩
theorem SlR.sub(h:SlR Rp' G a k l){i j:Int}{m:List α}(hm:lsub l i j=some m):∃a' k',subV (.slice a l.length k) i.toNat j.toNat Rp'.sz= .slice a' m.length k'∧SlR Rp' G a' k' m:=by
 obtain⟨hb,xs,h1,h2,h3⟩:=h
 obtain⟨i0,ij,jl,rfl⟩:=Xag hm
 have hs:=h1.sub (l:=i.toNat) (m:=j.toNat) (by omega) (by rw[h2];omega)
 have hn:j.toNat-i.toNat=(j-i).toNat:=by omega
 obtain⟨a',k',hv,rest⟩:=hs
 have hl:((xs.drop i.toNat).take (j.toNat-i.toNat)).length=((l.drop i.toNat).take (j-i).toNat).length:=by simp only [List.length_take,List.length_drop];omega
 rw[hl] at hv rest
 refine⟨a',k',hv,by simp only [List.length_take,List.length_drop];omega,_,⟨a',k',by rw[hl],by rw[hl];exact rest.1,rest.2⟩,hl,fun q c x hc hx=>?_⟩
 rw[hn] at hc
 have hq:q<(j-i).toNat:=by
  rcases Nat.lt_or_ge q (j-i).toNat with h |h
  ·exact h
  ·rw[List.getElem?_take_eq_none h] at hx;cases hx
 rw[List.getElem?_take_of_lt hq,List.getElem?_drop] at hc hx
 exact h3 _ _ _ hc hx
def Elem(sz:Nat)(cs:List Value)(n:Nat)(c:List Value):Prop:=c.length=sz∧∀(j:Nat)(v:Value),c[j]?=some v→cs[n*sz+j]?=some v
theorem OL.get{cs:List Value}(h:OL Rp' G cs l){i:Int}{x:α}(hx:lidx l i=some x):∃c,Elem Rp'.sz cs i.toNat c∧Rp'.r G c x:=by
 obtain⟨_,xs,rfl,h3,h2⟩:=h
 obtain⟨h4,h5,h6⟩:=X5y hx
 have hlt:i.toNat<xs.length:=by rw[h2.1];omega
 refine⟨xs[i.toNat],⟨h3 _ (List.getElem_mem hlt),fun j v hv=>?_⟩,h2.2 _ _ _ (List.getElem?_eq_getElem hlt) h6⟩
 exact X2y xs _ _ j v h3 (List.getElem?_eq_getElem hlt) hv
end
end Go.Proofs.YtnfalgmfmiolbaaGreat
end

section
namespace Go.Proofs.YtnfalgmfmiolbaaGreat
open Go.RowKit
section
variable{P:Program}{c:Cx}{R:Value→World→Prop}{nt:Nat}{w0:World}{S0:List Nat}{df:List Deferred}{ρ ρ':Env}{Fs Fs' Fin B:List Hp}{bl bl':Blks}{sl sl':List OwnS}
 {K K':Act→World→Prop} {k:List Item} {ty:TypeId} {α:Type} {G:Hp}
theorem Cov.reval(t:Nat){a:Option Addr}{n n' m:Nat}(e:n'=n)(ht:ρ.lookup t=some (.slice a n m))(h:Cov nt w0 S0 df ((t, .slice a n' m)::ρ) Fs bl sl K):Cov nt w0 S0 df ρ Fs bl sl K:=by
 subst e
 refine fun a w hf hi=>h a w ⟨hf.1,hf.2.1,fun u v hu=>?_⟩ hi
 simp only [List.lookup] at hu
 by_cases e:u=t
 ·subst e;simp only [beq_self_eq_true] at hu;cases hu;exact hf.2.2 _ _ ht
 ·have e':(u == t)=false:=by simpa using e
  simp only [e'] at hu
  exact hf.2.2 _ _ hu
theorem QOp.cast{op:Op}{v v':Value}(e:v=v')(h:QOp P ρ Fs bl sl op ty v):QOp P ρ Fs bl sl op ty v':=e▸h
theorem QOp.idxR{Q:Rep α}{a:Option Addr}{m:Nat}{l:List α}{i:Int}{u:α}{kk:IntKind}{t el:TypeId}{x j:Operand}(hs:SlR Q G a m l)(hx:ev ρ x=some (.slice a l.length m))(hj:ev ρ j=some (.int kk i))
  (he:lidx l i=some u) (ht:slOf P t=some el) (hz:szOf P el=some Q.sz):QOp P ρ Fs bl sl (.indexAddr t x j) ty (elemPtr (.slice a l.length m) i.toNat Q.sz):=by
 obtain⟨_,xs,h1,h2⟩:=hs
 obtain⟨h3,h4,_⟩:=X5y he
 exact .indexAddr h1 hx hj ht hz h3 (by rw[h2.1];omega)
theorem QOp.sliceR{Q:Rep α}{a a':Option Addr}{m m':Nat}{l l':List α}{i j:Int}{t el:TypeId}{x:Operand}{lo hi:Option Operand}(hs:SlR Q G a m l)(hx:ev ρ x=some (.slice a l.length m))(hl:lsub l i j=some l')
  (ht:slOf P t=some el) (hz:szOf P el=some Q.sz) (hlo:0≤i→Bnd ρ 0 lo i.toNat) (hhi:0≤j→Bnd ρ l.length hi j.toNat) (hv:subV (.slice a l.length m) i.toNat j.toNat Q.sz= .slice a' l'.length m'):
  QOp P ρ Fs bl sl (.slice t x lo hi none) ty (.slice a' l'.length m'):=by
 obtain⟨_,xs,h1,h2⟩:=hs
 obtain⟨h3,h4,h5,_⟩:=Xag hl
 have e:=h2.1
 refine .cast hv (.slice h1 hx ht hz (hlo h3) ?_ (by omega) (by omega))
 rw[e];exact hhi (by omega)
theorem Xcr{w:World}{T sz:Nat}{n:Nat}{a:Option Addr}{m:Nat}{cs:List Value}(h:w.ownsRow 0 T sz (.slice a n m) n cs)(hn:0<n):
  ∃g,a=some ⟨g,0,none⟩∧∀(q:Nat)(v:Value),q<n*sz→cs[q]?=some v→w.cell? ⟨g,q,none⟩=some v:=by
 rcases h.2 with ⟨_,h0⟩ | ⟨g,cap',cur,h1,_,h2,h3,_,h4,h5⟩
 ·omega
 ·cases h1
  refine⟨g,rfl,fun q v hq hv=>?_⟩
  rw[← h5,List.getElem?_take_of_lt hq] at hv
  rw[cell_of_row w g _ cur T (0,0) h2]
  simpa using hv
theorem QOp.idxO(q:Nat){a:Option Addr}{m T sz:Nat}{l:List α}{cs:List Value}{i:Int}{u:α}{kk:IntKind}{t el:TypeId}{x j:Operand}(hs:sl[q]?=some (.s (.slice a l.length m) T sz l.length cs))(hx:ev ρ x=some (.slice a l.length m))(hj:ev ρ j=some (.int kk i))
  (he:lidx l i=some u) (ht:slOf P t=some el) (hz:szOf P el=some sz):QOp P ρ Fs bl sl (.indexAddr t x j) ty (elemPtr (.slice a l.length m) i.toNat sz):= .of fun e he' w hm=>by
 obtain⟨h3,h4,_⟩:=X5y he
 obtain⟨g,rfl,_⟩:=Xcr (hm.slh _ (List.mem_of_getElem? hs)) (by omega)
 refine X89 (s:=Instr.indexAt t (e x) (e j)) ?_
 rw[he' x _ hx,he' j _ hj]
 exact Xck ht hz h3 h4
def PtrO(p:Value)(a:Option Addr)(len m n sz off:Nat):Prop:=(p=elemPtr (.slice a len m) n sz∧off=0)∨p=ptrAdd (elemPtr (.slice a len m) n sz) off
theorem Xdr{w:World}{T sz:Nat}{len:Nat}{a:Option Addr}{m n:Nat}{cs d:List Value}(h:w.ownsRow 0 T sz (.slice a len m) len cs)(hn:n<len)(he:Elem sz cs n d):
  ∃g,a=some ⟨g,0,none⟩∧∀(q:Nat)(v:Value),d[q]?=some v→w.cell? ⟨g,n*sz+q,none⟩=some v:=by
 obtain⟨g,rfl,hc⟩:=Xcr h (by omega)
 refine⟨g,rfl,fun q v hq=>hc _ _ ?_ (he.2 q v hq)⟩
 have hl:q<sz:=by rw[← he.1];exact(List.getElem?_eq_some_iff.1 hq).1
 have:(n+1)*sz≤len*sz:=Nat.mul_le_mul_right _ hn
 rw[Nat.add_mul] at this
 omega
theorem QOp.loadO(q off:Nat){a:Option Addr}{m T sz s bytes:Nat}{l:List α}{cs d z:List Value}{i:Int}{u:α}{t:TypeId}{x:Operand}{p v:Value}(hs:sl[q]?=some (.s (.slice a l.length m) T sz l.length cs))(he:lidx l i=some u)(hd:Elem sz cs i.toNat d)
  (hx:ev ρ x=some p) (hp:PtrO p a l.length m i.toNat sz off) (ht:TyI P t false s bytes z) (hv:d[off]?=some v):QOp P ρ Fs bl sl (.load t x) ty v:= .of fun e he' w hm=>by
 obtain⟨h3,h4,_⟩:=X5y he
 obtain⟨g,rfl,hc⟩:=Xdr (hm.slh _ (List.mem_of_getElem? hs)) (by omega) hd
 refine X89 (s:=Instr.loadAt t (e x)) ?_
 rw[he' x _ hx]
 rcases hp with ⟨rfl,rfl⟩ |rfl
 ·simp only [elemPtr,X1h,Nat.zero_add]
  exact X5v (X3x ht.agg) (by simpa using hc 0 v hv)
 ·simp only [elemPtr,ptrAdd,X1h,Nat.zero_add]
  exact X5v (X3x ht.agg) (hc off v hv)
theorem QOp.loadO_a(q off:Nat)(r:List Value){a:Option Addr}{m T sz bytes:Nat}{l:List α}{cs d z:List Value}{i:Int}{u:α}{t:TypeId}{x:Operand}{p:Value}(hs:sl[q]?=some (.s (.slice a l.length m) T sz l.length cs))(he:lidx l i=some u)(hd:Elem sz cs i.toNat d)
  (hx:ev ρ x=some p) (hp:PtrO p a l.length m i.toNat sz off) (ht:TyI P t true r.length bytes z) (hv:(d.drop off).take r.length=r):QOp P ρ Fs bl sl (.load t x) ty (.agg r.toArray):= .of fun e he' w hm=>by
 obtain⟨h3,h4,_⟩:=X5y he
 obtain⟨g,rfl,hc⟩:=Xdr (hm.slh _ (List.mem_of_getElem? hs)) (by omega) hd
 refine X89 (s:=Instr.loadAt t (e x)) ?_
 rw[he' x _ hx]
 have key:∀(j:Nat)(v:Value),r[j]?=some v→d[off+j]?=some v:=fun j v hj=>by
  have hl:j<r.length:=by rcases Nat.lt_or_ge j r.length with h |h;exact h;rw[List.getElem?_eq_none h] at hj;cases hj
  rw[← hv,List.getElem?_take_of_lt hl,List.getElem?_drop] at hj
  exact hj
 rcases hp with ⟨rfl,rfl⟩ |rfl
 ·simp only [elemPtr,X1h,Nat.zero_add]
  exact X5w (X3x ht.agg) (X1k ht.sz) fun j v hj=>hc j v (by simpa using key j v hj)
 ·simp only [elemPtr,ptrAdd,X1h,Nat.zero_add]
  exact X5w (X3x ht.agg) (X1k ht.sz) fun j v hj=>by rw[Nat.add_assoc];exact hc _ v (key j v hj)
theorem QOp.quow{t u:TypeId}{x y:Operand}{kk:IntKind}{m n:Int}(hx:ev ρ x=some (.int kk m))(hy:ev ρ y=some (.int kk n))(hr:n≠0):
  QOp P ρ Fs bl sl (.binOp .quo t x y u) ty (.int kk (kk.wrap (m.tdiv n))):= .int hx hy fun w=>by simp [binOp,Op.intDiv,hr]
theorem Bnd.yes'{ρ:Env}{d:Nat}{x:Operand}{k:IntKind}{n:Int}(hx:ev ρ x=some (.int k n))(h0:0≤n):Bnd ρ d (some x) n.toNat:= .yes hx h0 rfl
theorem Cov.enter(hk:∀G,Ext B G→Bd w0 S0 B G→Cov nt w0 S0 df ρ (G::B) bl sl K):Cov nt w0 S0 df ρ B bl sl K:=Cov.union Xh7 hk
theorem Xha{G':Hp}(h:Ext Fs G')(hG:G∈Fs):HpLe G G':=fun b o x=>h G hG b o x
theorem Cov.freezeR(q:Nat){Q:Rep α}{a:Option Addr}{m T n:Nat}{l:List α}{cs:List Value}(hs:sl[q]?=some (.s (.slice a l.length m) T n l.length cs))(hn:n=Q.sz)(ho:OL Q G cs l)(sl':List OwnS)(hsl:sl.eraseIdx q=sl')(hB:Bd w0 S0 B G)
  (hk:∀G',HpLe G G'→Bd w0 S0 B G'→SlR Q G' a m l→Cov nt w0 S0 df ρ (G'::B) bl sl' K):Cov nt w0 S0 df ρ (G::B) bl sl K:=by
 subst hn
 obtain⟨hb,xs,rfl,h3,h4⟩:=ho
 refine Cov.freezeS q xs hs rfl h4.1 h3 sl' hsl fun Gs hbs hss=>?_
 refine Cov.union (Fin:=B) (Xe1 (hbs _) (Xe1 hB Xh7)) fun G' he hb'=>?_
 refine Cov.less (G'::B) (fun F hF=>by rcases List.mem_cons.1 hF with rfl |hF;exact List.mem_cons_self;exact List.mem_cons_of_mem _ (List.mem_cons_of_mem _ (List.mem_cons_of_mem _ hF))) ?_
 have hle:HpLe G G':=Xha he (List.mem_cons_of_mem _ List.mem_cons_self)
 exact hk G' hle hb' ⟨by omega,xs,hss.mono (Xha he List.mem_cons_self),h4.mono hle⟩
theorem Cov.appR(q:Nat){Q:Rep α}{d:Nat}{t e:TypeId}{s x:Operand}{a a2:Option Addr}{m m2 n:Nat}{l l2 l':List α}{cs:List Value}{agg:Bool}{sz bytes:Nat}{z:List Value}
  (hs:Stp P K' ⟨some d, .call ⟨.builtin .append,#[s,x],#[t,t]⟩,ty,none⟩ K) (ht:slOf P t=some e) (hel:TyI P e agg sz bytes z) (hz:z.length=sz) (hsz:Nat.blt 0 sz=true) (hby:Nat.ble bytes 8388608=true)
  (hi:sl[q]?=some (.s (.slice a l.length m) e sz l.length cs)) (hn:sz=Q.sz) (ho:OL Q G cs l) (he:ev ρ s=some (.slice a l.length m)) (hx:ev ρ x=some (.slice a2 n m2)) (h2:SlR Q G a2 m2 l2) (hln:n=l2.length) (hG:G∈Fs) (hl:lapp l l2=some l') (hd:Nat.blt d nt=true)
  (hk:∀a' m' cs',OL Q G cs' l'→Cov nt w0 S0 df ((d, .slice a' l'.length m')::ρ) Fs bl (sl.set q (.s (.slice a' l'.length m') e sz l'.length cs')) K):Cov nt w0 S0 df ρ Fs bl sl K':=by
 subst hn hln
 obtain⟨hb,rfl⟩:=Xcq hl
 obtain⟨hb1,xs,rfl,h3,h4⟩:=ho
 obtain⟨_,ys,h5,h6⟩:=h2
 have e1:xs.length=l.length:=h4.1
 have e2:ys.length=l2.length:=h6.1
 rw[← e1] at hi he
 rw[← e2] at hx h5
 refine Cov.append q xs ys id hs ht hel hz hsz hby (by simpa using hi) he hx (by simpa using h5) hG (fun c hc=>?_) (by omega) hd fun a' m'=>?_
 ·obtain⟨j,hj,rfl⟩:=List.getElem_of_mem hc
  exact Q.one (h6.2 j _ _ (List.getElem?_eq_getElem hj) (List.getElem?_eq_getElem (by omega)))
 ·obtain⟨_,_,_,_,h7,_⟩:=h5
  have hk':=hk a' m' (xs++ys).flatten ⟨by simp;omega,xs++ys,rfl,fun c hc=>by rcases List.mem_append.1 hc with h |h;exact h3 c h;exact h7 c h,by simp [e1,e2],fun i c y hc hy=>by
   rcases Nat.lt_or_ge i xs.length with h |h
   ·rw[List.getElem?_append_left h] at hc
    rw[List.getElem?_append_left (by omega)] at hy
    exact h4.2 i c y hc hy
   ·rw[List.getElem?_append_right h] at hc
    rw[List.getElem?_append_right (by omega), ← e1] at hy
    exact h6.2 _ c y hc hy⟩
  have e3:(xs++ys).length=(l++l2).length:=by simp [e1,e2]
  simpa [e1,e2] using hk'
theorem Cov.appO(q:Nat){Q:Rep α}{d:Nat}{t e:TypeId}{s x:Operand}{a a2:Option Addr}{m m2 n T2:Nat}{l l2 l':List α}{cs cs2:List Value}{agg:Bool}{sz bytes:Nat}{z:List Value}
  (hs:Stp P K' ⟨some d, .call ⟨.builtin .append,#[s,x],#[t,t]⟩,ty,none⟩ K) (ht:slOf P t=some e) (hel:TyI P e agg sz bytes z) (hz:z.length=sz) (hsz:Nat.blt 0 sz=true) (hby:Nat.ble bytes 8388608=true)
  (hi2:sl[0]?=some (.s (.slice a2 n m2) T2 sz n cs2)) (hi:sl[q+1]?=some (.s (.slice a l.length m) e sz l.length cs)) (hn:sz=Q.sz) (ho:OL Q G cs l) (ho2:OL Q G cs2 l2) (hln:n=l2.length) (he:ev ρ s=some (.slice a l.length m)) (hx:ev ρ x=some (.slice a2 n m2)) (hB:Bd w0 S0 B G) (hl:lapp l l2=some l') (hd:Nat.blt d nt=true)
  (hk:∀a' m' cs',OL Q G cs' l'→Cov nt w0 S0 df ((d, .slice a' l'.length m')::ρ) (G::B) bl (sl.tail.set q (.s (.slice a' l'.length m') e sz l'.length cs')) K):Cov nt w0 S0 df ρ (G::B) bl sl K':=by
 subst hn hln
 obtain⟨hb,rfl⟩:=Xcq hl
 obtain⟨hb1,xs,rfl,h3,h4⟩:=ho
 obtain⟨_,ys,rfl,h5,h6⟩:=ho2
 have e1:xs.length=l.length:=h4.1
 have e2:ys.length=l2.length:=h6.1
 refine Cov.freezeS 0 ys hi2 rfl e2 h5 sl.tail (by cases sl<;>simp at hi2 ⊢) fun Gs hbs hss=>?_
 rw[← e1] at hi he
 rw[← e2] at hx hss
 have hi':sl.tail[q]?=some (.s (.slice a xs.length m) e Q.sz xs.length (xs.map id).flatten):=by simpa using hi
 refine Cov.append q xs ys id hs ht hel hz hsz hby hi' he hx (by simpa using hss) List.mem_cons_self (fun c hc=>?_) (by omega) hd fun a' m'=>?_
 ·obtain⟨j,hj,rfl⟩:=List.getElem_of_mem hc
  exact Q.one (h6.2 j _ _ (List.getElem?_eq_getElem hj) (List.getElem?_eq_getElem (by omega)))
 ·have hk':=hk a' m' (xs++ys).flatten ⟨by simp;omega,xs++ys,rfl,fun c hc=>by rcases List.mem_append.1 hc with h |h;exact h3 c h;exact h5 c h,by simp [e1,e2],fun i c y hc hy=>by
   rcases Nat.lt_or_ge i xs.length with h |h
   ·rw[List.getElem?_append_left h] at hc
    rw[List.getElem?_append_left (by omega)] at hy
    exact h4.2 i c y hc hy
   ·rw[List.getElem?_append_right h] at hc
    rw[List.getElem?_append_right (by omega), ← e1] at hy
    exact h6.2 _ c y hc hy⟩
  have e3:(xs++ys).length=(l++l2).length:=by simp [e1,e2]
  exact Cov.less (G::B) (fun F hF=>List.mem_cons_of_mem _ hF) (by simpa [e1,e2] using hk')
theorem Cov.storeR(q:Nat)(off:Nat){Q:Rep α}{a:Option Addr}{m T sz:Nat}{l l':List α}{cs dc:List Value}{i:Int}{y:α}{t:TypeId}{x u:Operand}{v p:Value}{agg:Bool}{bytes:Nat}{z:List Value}(hs:Stp P K' ⟨none, .store t x u,ty,none⟩ K)
  (hi:sl[q]?=some (.s (.slice a l.length m) T sz l.length cs)) (hn:sz=Q.sz) (ho:OL Q G cs l) (hl:lupd l i y=some l') (hx:ev ρ x=some p) (hp:PtrO p a l.length m i.toNat sz off) (hu:ev ρ u=some v) (ht:TyI P t agg (cellsL v).length bytes z) (hd:Elem sz cs i.toNat dc)
  (hy:Q.r G (dc.take off++cellsL v++dc.drop (off+(cellsL v).length)) y) (h1:(cellsL v).all (·.oneCell')=true) (hfit:Nat.ble (off+(cellsL v).length) sz=true)
  (hk:∀cs',l'.length=l.length→OL Q G cs' l'→Cov nt w0 S0 df ρ Fs bl (sl.set q (.s (.slice a l'.length m) T sz l'.length cs')) K):Cov nt w0 S0 df ρ Fs bl sl K':=by
 subst hn
 obtain⟨hi0,hil,rfl⟩:=X8c hl
 obtain⟨hb1,xs,rfl,h3,h4⟩:=ho
 have hfit':off+(cellsL v).length≤Q.sz:=by simpa [Nat.ble_eq] using hfit
 have hxs:∃ys:List {c:List Value//c.length=Q.sz},xs=ys.map (·.1):=⟨xs.attach.map fun c=>⟨c.1,h3 _ c.2⟩,by simp⟩
 obtain⟨ys,rfl⟩:=hxs
 have e1:ys.length=l.length:=by have:=h4.1;simpa using this
 have hj:i.toNat<ys.length:=by omega
 have hdc:(ys[i.toNat]).1=dc:=by
  apply List.ext_getElem?
  intro j
  rcases Nat.lt_or_ge j dc.length with h |h
  ·have hjl:j<(ys[i.toNat]).1.length:=by rw[(ys[i.toNat]).2, ← hd.1];exact h
   have g1:=X2y (ys.map (·.1)) i.toNat (ys[i.toNat]).1 j _ h3 (by rw[List.getElem?_map,List.getElem?_eq_getElem hj];rfl) (List.getElem?_eq_getElem hjl)
   have g2:=hd.2 j _ (List.getElem?_eq_getElem h)
   rw[g1] at g2
   rw[List.getElem?_eq_getElem hjl,g2,List.getElem?_eq_getElem h]
  ·rw[List.getElem?_eq_none h,List.getElem?_eq_none (by rw[(ys[i.toNat]).2, ← hd.1];exact h)]
 have hlen:(dc.take off++cellsL v++dc.drop (off+(cellsL v).length)).length=Q.sz:=by
  simp only [List.length_append,List.length_take,List.length_drop,hd.1];omega
 rw[← e1] at hi hp
 refine Cov.store_o q (ys[i.toNat]) (⟨_,hlen⟩:{c:List Value//c.length=Q.sz}) off (f:=fun c=>c.1) hs hi hx hp hu ht h1 (fun c=>c.2) hj hfit' ?_ _ rfl ?_
 ·rw[show ys.getD i.toNat ys[i.toNat]=ys[i.toNat] from by rw[List.getD_eq_getElem?_getD,List.getElem?_eq_getElem hj];rfl,hdc]
 ·have hk':=hk ((ys.set i.toNat ⟨_,hlen⟩).map (·.1)).flatten List.length_set ⟨by simp;omega,_,rfl,fun c hc=>by obtain⟨c',_,rfl⟩:=List.mem_map.1 hc;exact c'.2,by simp [e1],fun j c x hc hx=>by
   simp only [List.getElem?_map,List.getElem?_set] at hc hx
   by_cases hij:i.toNat=j
   ·subst hij
    rw[if_pos rfl] at hc hx
    simp [hj,show i.toNat<l.length by omega] at hc hx
    subst hc hx
    simpa using hy
   ·rw[if_neg hij] at hc hx
    exact h4.2 j c x (by rw[List.getElem?_map];exact hc) hx⟩
  simpa [e1] using hk'
theorem Cov.makeR{Q:Rep α}{d:Nat}{t el:TypeId}{x y:Operand}{n:Int}{agg:Bool}{sz bytes:Nat}{z:List Value}{zx:α}{l:List α}(hs:Stp P K' ⟨some d, .makeSlice t x y,ty,none⟩ K)(ht:slOf P t=some el)(hel:TyI P el agg sz bytes z)(hn:sz=Q.sz)(hzl:z.length=sz)(hz1:Nat.blt 0 sz=true)(hzf:Q.r G z zx)
  (hx:ev ρ x=some (.int .i64 n)) (hy:ev ρ y=some (.int .i64 n)) (hl:lmk n zx=some l) (hby:Nat.ble bytes 8388608=true) (hd:Nat.blt d nt=true)
  (hk:∀b cs,w0.heap.size≤b→OL Q G cs l→Cov nt w0 S0 df ((d, .slice (some ⟨b,0,none⟩) l.length l.length)::ρ) Fs bl (.s (.slice (some ⟨b,0,none⟩) l.length l.length) el sz l.length cs::sl) K):Cov nt w0 S0 df ρ Fs bl sl K':=by
 obtain⟨h0,h1,rfl⟩:=Xge hl
 have hc:((n.toNat:Nat):Int)=n:=by omega
 rw[← hc] at hx hy
 refine Cov.make zx (fun _=>z) hs ht hel hzl (by simpa [Nat.blt_eq] using hz1) rfl hx hy (by omega) hby hd fun b hb=>?_
 have hk':=hk b _ hb ⟨by simp;omega,List.replicate n.toNat z,rfl,fun c hc=>by rw[(List.mem_replicate.1 hc).2,hzl,hn],by simp,fun i c x h2 h3=>by
  rw[List.getElem?_replicate] at h2 h3
  split at h2
  ·rename_i hh;simp [hh] at h2 h3;subst h2 h3;exact hzf
  ·cases h2⟩
 simpa using hk'
theorem Cov.cut{β:Type}(dyn:β→Env)(ρs:Env)(FsD:β→List Hp)(blD:β→Blks)(bls:Blks)(slD:β→List OwnS)(sls:List OwnS)(I:β→Prop)(hρ:Sub ρ ρs)
  (hk:∀y,I y→Cov nt w0 S0 df (dyn y++ρs) (FsD y) (blD y++bls) (slD y++sls) K) (h:(∀y,I y→Cov nt w0 S0 df (dyn y++ρs) (FsD y) (blD y++bls) (slD y++sls) K)→Cov nt w0 S0 df ρ Fs bl sl K'):Cov nt w0 S0 df ρ Fs bl sl K':=h hk
end
end Go.Proofs.YtnfalgmfmiolbaaGreat
end

section
namespace Go.Proofs.YtnfalgmfmiolbaaGreat
open Go.RowKit
def RetS(P:Program)(f:FuncId)(args:Array Value)(Fs:List Hp)(bin:Blks)(sin:List OwnS)(Q:Value→Blks→List OwnS→Prop):Prop:=
 RetG P f args Fs bin sin fun v _ bl sl=>Q v bl sl
def RetW(P:Program)(f:FuncId)(args:Array Value)(Fs:List Hp)(bin:Blks)(sin:List OwnS)(Q:Value→Blks→List OwnS→Hp→Prop):Prop:=
 RetG P f args Fs bin sin fun v Fr bl sl=>∀G',Ext (Fr::Fs) G'→Q v bl sl G'
section
variable{P:Program}{c:Cx}{R:Value→World→Prop}{nt:Nat}{w0:World}{S0:List Nat}{df:List Deferred}{ρ ρ':Env}{Fs Fs' Fin B:List Hp}{bl bl':Blks}{sl sl':List OwnS}
 {K K':Act→World→Prop} {k:List Item} {ty:TypeId} {G:Hp}
theorem RetG.mono{f:FuncId}{args:Array Value}{bin:Blks}{sin:List OwnS}{Post Post':Value→Hp→Blks→List OwnS→Prop}(h:RetG P f args Fs bin sin Post)(hp:∀v Fr bl sl,Post v Fr bl sl→Post' v Fr bl sl):RetG P f args Fs bin sin Post':=
 fun w h1 h2 h3 h4 h5=>(h w h1 h2 h3 h4 h5).mono fun _ _ ⟨Fr,bl,sl,a,b,d⟩=>⟨Fr,bl,sl,a,b,hp _ _ _ _ d⟩
theorem RetS.ret{f:FuncId}{args:Array Value}{Q:Value→Blks→List OwnS→Prop}(h:RetS P f args Fs [] [] Q):Ret P f args Fs [] fun v _ bl sl=>Q v bl sl:=
 fun w h1 h2 h3 h4=>h w h1 h2 (by simp) (by simp [blks]) (by simp [blks])
theorem RetS.retv{f:FuncId}{args:Array Value}{Q:Value→Prop}(h:RetS P f args Fs [] [] (fun v bl sl=>Q v∧bl=[]∧sl=[])):RetV P f args Fs Q:=h.ret
theorem Cov.dup(hG:G∈Fs)(h:Cov nt w0 S0 df ρ (G::Fs) bl sl K):Cov nt w0 S0 df ρ Fs bl sl K:=
 Cov.less (G::Fs) (fun F hF=>by rcases List.mem_cons.1 hF with rfl |hF;exact hG;exact hF) h
theorem Cov.callS{b1 b2:Blks}{s1 s2:List OwnS}(vs cap:List Value){d:Nat}{f:FuncId}{fop:Operand}{args:Array Operand}{ts:Array TypeId}{Q:Value→Blks→List OwnS→Prop}(hs:Stp P K' ⟨some d, .call ⟨.value fop,args,ts⟩,ty,none⟩ K)
  (hf:ev ρ fop=some (.func (.func f) #[] cap.toArray)) (ha:args.toList.map (ev ρ)=vs.map some) (hcall:∀args w,(callFunc f args).run P w= .ok (.enter f args) w) (hbl:bl=b1++b2) (hsl:sl=s1++s2) (hr:RetS P f (vs++cap).toArray Fs b1 s1 Q) (hd:Nat.blt d nt=true)
  (hk:∀v bo so,Q v bo so→Cov nt w0 S0 df ((d,v)::ρ) Fs (bo++b2) (so++s2) K):Cov nt w0 S0 df ρ Fs bl sl K':=
 Cov.callg vs cap hs hf ha hcall hbl hsl hr hd fun v Fr bo so _ h=>Cov.less Fs (fun _ hF=>List.mem_cons_of_mem _ hF) (hk v bo so h)
theorem Cov.callW{b1 b2:Blks}{s1 s2:List OwnS}(vs cap:List Value){d:Nat}{f:FuncId}{fop:Operand}{args:Array Operand}{ts:Array TypeId}{Q:Value→Blks→List OwnS→Hp→Prop}(hs:Stp P K' ⟨some d, .call ⟨.value fop,args,ts⟩,ty,none⟩ K)
  (hf:ev ρ fop=some (.func (.func f) #[] cap.toArray)) (ha:args.toList.map (ev ρ)=vs.map some) (hcall:∀args w,(callFunc f args).run P w= .ok (.enter f args) w) (hbl:bl=b1++b2) (hsl:sl=s1++s2) (hr:RetW P f (vs++cap).toArray (G::B) b1 s1 Q) (hd:Nat.blt d nt=true) (hB:Bd w0 S0 B G)
  (hk:∀v bo so G',HpLe G G'→Bd w0 S0 B G'→Q v bo so G'→Cov nt w0 S0 df ((d,v)::ρ) (G'::B) (bo++b2) (so++s2) K):Cov nt w0 S0 df ρ (G::B) bl sl K':=
 Cov.callg vs cap hs hf ha hcall hbl hsl hr hd fun v Fr bo so hfr h=>
  Cov.union (Fin:=B) (Xe1 (Bd.fresh hfr) (Xe1 hB Xh7)) fun G' he hb'=>
   Cov.less (G'::B) (fun F hF=>by rcases List.mem_cons.1 hF with rfl |hF;exact List.mem_cons_self;exact List.mem_cons_of_mem _ (List.mem_cons_of_mem _ (List.mem_cons_of_mem _ hF)))
    (hk v bo so G' (Xha he (List.mem_cons_of_mem _ List.mem_cons_self)) hb' (h G' he))
theorem Cov.retS{fn:Func}{items:List Item}(hit:items=[]∨∃k,items= .code .ret::k)(rs:List ResultVar)(vs:List Value){Q:Value→Blks→List OwnS→Prop}(hro:c.ro=none)(hf:P.funcs[c.fn]?=some fn)(hrs:fn.results=rs.toArray)
  (hres:RVs P ρ Fs bl sl rs vs) (hsub:∀F∈Fin,F∈Fs) (hpost:Q (retVal vs) bl sl):Cov nt w0 S0 [] ρ Fs bl sl (Run P c (RP w0 S0 Fin (fun v _ bl sl=>Q v bl sl)) items):=
 Cov.leave (Fr:=empHp) hit rs vs hro hf hrs hres hsub (.inl rfl) (Xco _) hpost
theorem RetS.of{f:FuncId}{fn:Func}{code:Code}{vs:List Value}{bin:Blks}{sin:List OwnS}{Q:Value→Blks→List OwnS→Prop}(hf:P.funcs[f]?=some fn)(hb:fn.body=some code)(hn:fn.ntmps=nt)(ρ0:Env)(hρ:ArgsOk vs ρ0)(hlen:Nat.ble vs.length nt=true)(hG:G∈Fs)
  (h:∀w0 S0,S0=blks bin sin→Bd w0 S0 Fs G→Cov nt w0 S0 [] ρ0 (G::Fs) bin sin (Run P ⟨f,none⟩ (RP w0 S0 Fs (fun v _ bl sl=>Q v bl sl)) [.code code])):RetS P f vs.toArray Fs bin sin Q:=
 RetG.of hf hb hn ρ0 hρ hlen fun w0=>Cov.dup hG (h w0 _ rfl (Bd.fin hG))
theorem RetW.of{f:FuncId}{fn:Func}{code:Code}{vs:List Value}{bin:Blks}{sin:List OwnS}{Q:Value→Blks→List OwnS→Hp→Prop}(hf:P.funcs[f]?=some fn)(hb:fn.body=some code)(hn:fn.ntmps=nt)(ρ0:Env)(hρ:ArgsOk vs ρ0)(hlen:Nat.ble vs.length nt=true)(hG:G∈Fs)
  (h:∀w0 S0,S0=blks bin sin→Bd w0 S0 Fs G→Cov nt w0 S0 [] ρ0 (G::Fs) bin sin (Run P ⟨f,none⟩ (RP w0 S0 Fs (fun v Fr bl sl=>∀G',Ext (Fr::Fs) G'→Q v bl sl G')) [.code code])):RetW P f vs.toArray Fs bin sin Q:=
 RetG.of hf hb hn ρ0 hρ hlen fun w0=>Cov.dup hG (h w0 _ rfl (Bd.fin hG))
end
end Go.Proofs.YtnfalgmfmiolbaaGreat
end

section
namespace Go.Proofs.YtnfalgmfmiolbaaGreat
open Go.RowKit
set_option linter.unusedSimpArgs false
theorem X6{p q:Prop}[Decidable p][Decidable q](h:p):(some (Value.bool true))=some (.bool (decide (p∨q))):=by simp [h]
theorem X7{p q:Prop}[Decidable p][Decidable q](h:¬p):(some (Value.bool (decide q)))=some (.bool (decide (p∨q))):=by simp [h]
theorem X2l{p q:Prop}[Decidable p][Decidable q](h:p):(some (Value.bool (decide q)))=some (.bool (decide (p∧q))):=by simp [h]
theorem X2m{p q:Prop}[Decidable p][Decidable q](h:¬p):(some (Value.bool false))=some (.bool (decide (p∧q))):=by simp [h]
theorem Xbh{b:Bool}(h:b=false):¬(b=true):=by simp [h]
theorem sval{α:Type}{f:α→Value}{x y:α}(h:some x=some y):some (f x)=some (f y):=by cases h;rfl
section
variable{α β:Type}{A:Rep α}{S:Rep β}{G:Hp}
theorem Rep.intI(k:IntKind)(x:Int):(Rep.int k).r G [.int k x] x:=rfl
theorem Rep.boolI(x:Bool):Rep.bool.r G [.bool x] x:=rfl
theorem Rep.slI{a:Option Addr}{k:Nat}{l:List α}(h:SlR A G a k l):(Rep.sl A).r G [.slice a l.length k] l:=⟨a,k,rfl,h⟩
theorem Rep.pairI{c d:List Value}{x:α}{y:β}(h:A.r G c x)(h2:S.r G d y):(Rep.pair A S).r G (c++d) (x,y):=⟨c,d,rfl,h,h2⟩
end
section
variable{P:Program}{c:Cx}{R:Value→World→Prop}{nt:Nat}{w0:World}{S0:List Nat}{df:List Deferred}{ρ ρ':Env}{Fs Fs' Fin B:List Hp}{bl bl':Blks}{sl sl':List OwnS}
 {K K':Act→World→Prop} {k:List Item} {ty:TypeId} {G:Hp}
theorem Cls.of_le{w:World}{G0:Hp}{bl0:Blks}(h:Inv w0 S0 Fs bl sl w)(h1:∃G∈Fs,HpLe G0 G)(h2:∀p∈bl0,p∈bl):Cls [G0] bl0 w:=
 ⟨fun F hF=>by
  obtain⟨G,hG,hle⟩:=h1
  rcases List.mem_cons.1 hF with rfl |hF
  ·exact fun b o hb=>h.mem.fs G hG b o (hle b o hb)
  ·exact absurd hF (List.not_mem_nil),fun p hp=>h.mem.own p (h2 p hp)⟩
theorem Cov.drawL{id:Nat}{ops:Array Oper}(l:OT)(bl0:Blks)(hm:P.follows .mixedOrders=true)(hok:drawOk ops l=true)(h2:∀p∈bl0,p∈bl)
  (h:Cov nt w0 S0 df ρ (G::Fs) bl sl (DO P c R (Cls [G] bl0) (flatD ops l) k)):
  Cov nt w0 S0 df ρ (G::Fs) bl sl (Run P c R (.code (.region id ops true)::k)):=Cov.draw l [G] bl0 hm hok (fun F hF=>by simp at hF;subst hF;exact List.mem_cons_self) h2 h
theorem Cov.clsL{G0:Hp}{bl0:Blks}(h1:HpLe G0 G)(h2:∀p∈bl0,p∈bl){K:Act→World→Prop}(h:Cov nt w0 S0 df ρ (G::Fs) bl sl K):Cov nt w0 S0 df ρ (G::Fs) bl sl (fun a w=>Cls [G0] bl0 w∧K a w):=
 fun a w hf hi=>⟨Cls.of_le hi ⟨G,List.mem_cons_self,h1⟩ h2,h a w hf hi⟩
theorem Cov.dge_offL{G0:Hp}{bl0:Blks}{m:Nat}{t:Nat}{b b':Bool}{d:Nat}{op:Op}{ty:TypeId}{os:OX}(hg:ρ.lookup t=some (.bool b'))(hb:(b' == b)=false)(hd:Nat.blt d nt=true)
  (h1:HpLe G0 G) (h2:∀p∈bl0,p∈bl) (h:Cov nt w0 S0 df ((d,undef)::ρ) (G::Fs) bl sl (DO P c R (Cls [G0] bl0) os k)):
  Cov nt w0 S0 df ρ (G::Fs) bl sl (DO P c R (Cls [G0] bl0) (.e ⟨some d,op,ty,some (t,b)⟩ m os) k):=fun a w hf hi=>by
 have h3:=hf.2.2 _ _ hg
 have h4:=h _ w (hf.put hd _) hi
 match m with
 |0=>simp only [DO,wantedT,h3,hb,Bool.false_eq_true,if_false];exact h4
 |1=>simp only [DO,wantedT,h3,hb,Bool.false_eq_true,if_false];exact⟨Cls.of_le hi ⟨G,List.mem_cons_self,h1⟩ h2,h4⟩
 |m+2=>simp only [DO,wantedT,h3,hb,Bool.false_eq_true,if_false];exact h4
section
variable{β:Type}(dyn:β→Env)(ρs:Env)(FsD:β→List Hp)(blD:β→Blks)(bls:Blks)(slD:β→List OwnS)(sls:List OwnS)(I:β→Prop)(hρ:Sub ρ ρs)(ib:List Nat)(hb:ib.map (bl[·]?)=bls.map some)(is:List Nat)(hs:is.map (sl[·]?)=sls.map some)
set_option linter.unusedVariables false
set_option linter.unusedSectionVars false
include hρ hb hs
theorem Cov.cutB{id:Nat}{x:Code}(hk:∀y,I y→Cov nt w0 S0 df (dyn y++ρs) (FsD y) (blD y++bls) (slD y++sls) (Run P c R k))
  (h:(∀y,I y→Cov nt w0 S0 df (dyn y++ρs) (FsD y) (blD y++bls) (slD y++sls) (Run P c R k))→Cov nt w0 S0 df ρ Fs bl sl (Run P c R (.code (.block id x)::k))):Cov nt w0 S0 df ρ Fs bl sl (Run P c R (.code (.block id x)::k)):=h hk
theorem Cov.cutI{o:Operand}{x y:Code}(hk:∀y,I y→Cov nt w0 S0 df (dyn y++ρs) (FsD y) (blD y++bls) (slD y++sls) (Run P c R k))
  (h:(∀y,I y→Cov nt w0 S0 df (dyn y++ρs) (FsD y) (blD y++bls) (slD y++sls) (Run P c R k))→Cov nt w0 S0 df ρ Fs bl sl (Run P c R (.code (.cond o x y)::k))):Cov nt w0 S0 df ρ Fs bl sl (Run P c R (.code (.cond o x y)::k)):=h hk
end
def OX.after:Nat→OX→OX
 |0,t=>t
 |n+1, .q _ t=>OX.after n t
 |n+1, .e _ _ t=>OX.after n t
 |n+1, .alt t _=>OX.after (n+1) t
 |_+1,t=>t
theorem Cov.retSD(n:Nat){fn:Func}{items:List Item}(hit:items=[]∨∃k,items= .code .ret::k)(rs:List ResultVar)(vs:List Value){Q:Value→Blks→List OwnS→Prop}(hro:c.ro=none)(hf:P.funcs[c.fn]?=some fn)(hrs:fn.results=rs.toArray)
  (hres:RVs P ρ Fs bl sl rs vs) (hsub:∀F∈Fin,F∈Fs) (hpost:Q (retVal vs) (bl.drop n) sl):Cov nt w0 S0 [] ρ Fs bl sl (Run P c (RP w0 S0 Fin (fun v _ bl sl=>Q v bl sl)) items):=fun a w hfi hinv=>by
 have hsb:(blks (bl.drop n) sl).Sublist (blks bl sl):=((List.drop_sublist n bl).map _).append (List.Sublist.refl _)
 refine Run.leave hit hro hf hfi.1 (X8a hfi hinv.mem hrs hres) ⟨empHp,bl.drop n,sl,Xco _,?_,hpost⟩
 refine hinv.change [] (by simp) (Keep.refl w []) (fun G hG=>?_) (fun p hp=>hinv.mem.own p (List.mem_of_mem_drop hp)) hinv.mem.slh (hinv.nodup.sublist hsb) (fun b hb=> .inl (hsb.subset hb))
 rcases List.mem_cons.1 hG with rfl |hG
 ·exact .inr ⟨fun b o hb=>by simp [empHp] at hb,fun _ _=>rfl⟩
 ·exact .inl (hsub G hG)
theorem Cov.retWD(n:Nat){fn:Func}{items:List Item}(hit:items=[]∨∃k,items= .code .ret::k)(rs:List ResultVar)(vs:List Value){Q:Value→Blks→List OwnS→Hp→Prop}(hro:c.ro=none)(hf:P.funcs[c.fn]?=some fn)(hrs:fn.results=rs.toArray)
  (hres:RVs P ρ Fs bl sl rs vs) (hsub:∀F∈Fin,F∈Fs) (hG:G∈Fs) (hbd:Bd w0 S0 Fin G) (hS:∀b∈S0,b∈blks bl sl) (hpost:∀G',HpLe G G'→Q (retVal vs) (bl.drop n) sl G'):
  Cov nt w0 S0 [] ρ Fs bl sl (Run P c (RP w0 S0 Fin (fun v Fr bl sl=>∀G',Ext (Fr::Fin) G'→Q v bl sl G')) items):=by
 intro a w hfi hi
 have hsb:(blks (bl.drop n) sl).Sublist (blks bl sl):=((List.drop_sublist n bl).map _).append (List.Sublist.refl _)
 exact(Cov.part hG (fun a w hfi hinv=>by
  refine Run.leave hit hro hf hfi.1 (X8a hfi hinv.mem hrs (Xh8 (fun F hF=>List.mem_cons_of_mem _ hF) rs vs hres)) ⟨Proofs.YtnfalgmfmiolbaaGreat.part w0 G,bl.drop n,sl,Xdq w0 G,?_,fun G' he=>hpost G' (Xgc hbd (fun b hb=>hi.apart b (hS b hb) G hG) he)⟩
  refine hinv.change [] (by simp) (Keep.refl w []) (fun F hF=> .inl ?_) (fun p hp=>hinv.mem.own p (List.mem_of_mem_drop hp)) hinv.mem.slh (hinv.nodup.sublist hsb) (fun b hb=> .inl (hsb.subset hb))
  rcases List.mem_cons.1 hF with rfl |hF
  ·exact List.mem_cons_self
  ·exact List.mem_cons_of_mem _ (hsub F hF))) a w hfi hi
end
end Go.Proofs.YtnfalgmfmiolbaaGreat
end

section
namespace Go.Proofs.YtnfalgmfmiolbaaGreat
open Go.RowKit
section
variable{P:Program}{c:Cx}{R:Value→World→Prop}{nt:Nat}{w0:World}{S0:List Nat}{df:List Deferred}{ρ ρ':Env}{Fs Fs' Fin B:List Hp}{bl bl':Blks}{sl sl':List OwnS}
 {K K':Act→World→Prop} {k:List Item} {ty:TypeId} {G:Hp} {α:Type}
theorem SlR.isnil{Q:Rep α}{a:Option Addr}{m:Nat}{l:List α}(h:SlR Q G a m l)(hc:a.isNone=true):l=[]:=by
 obtain⟨_,xs,⟨a',cap,hv,_,_,hcc⟩,hl,_⟩:=h
 simp only [Value.slice.injEq] at hv
 obtain⟨rfl,_,_⟩:=hv
 by_cases h0:xs=[]
 ·subst h0;exact List.eq_nil_of_length_eq_zero (by simpa using hl.symm)
 ·obtain⟨b,o,h1,_⟩:=hcc h0;rw[h1] at hc;cases hc
end
end Go.Proofs.YtnfalgmfmiolbaaGreat
end

section
namespace Go.Proofs.YtnfalgmfmiolbaaGreat
open Go.RowKit
theorem Xfs{α:Type}{l src:List α}{i:Int}{n:Nat}(h:i.toNat+min src.length n≤l.length):(lcpy l i n src).length=l.length:=by
 unfold lcpy;simp only [List.length_append,List.length_take,List.length_drop];omega
theorem Xf4{α:Type}{l src:List α}{i:Int}{n:Nat}(h:min src.length n=0):lcpy l i n src=l:=by
 unfold lcpy
 have:src.take n=[]:=by apply List.eq_nil_of_length_eq_zero;rw[List.length_take];omega
 rw[this,h];simp
section
variable{P:Program}{c:Cx}{R:Value→World→Prop}{nt:Nat}{w0:World}{S0:List Nat}{df:List Deferred}{ρ ρ':Env}{Fs Fs' Fin B:List Hp}{bl bl':Blks}{sl sl':List OwnS}
 {K K':Act→World→Prop} {k:List Item} {ty:TypeId} {G:Hp} {α:Type}
theorem Cov.owncap(q:Nat){a:Option Addr}{n m T sz:Nat}{cs:List Value}(hi:sl[q]?=some (.s (.slice a n m) T sz n cs))(hk:n≤m→Cov nt w0 S0 df ρ Fs bl sl K):Cov nt w0 S0 df ρ Fs bl sl K:=fun a' w hf hinv=>by
 have hown:w.ownsRow 0 T sz _ _ _:=hinv.mem.slh _ (List.mem_of_getElem? hi)
 refine hk ?_ a' w hf hinv
 rcases hown.2 with ⟨hv,h0⟩ | ⟨g,cap',cur,h1,_,_,h3,_⟩
 ·omega
 ·cases h1;exact h3
end
end Go.Proofs.YtnfalgmfmiolbaaGreat
end

section
namespace Go.Proofs.YtnfalgmfmiolbaaGreat
open Go.RowKit
structure Yr(α:Type) where
 n:Nat
 r:Hp→List Value→α→Prop
 len:∀{G:Hp}{c:List Value}{x:α},r G c x→c.length=n
 mono:∀{G G':Hp}{c:List Value}{x:α},HpLe G G'→r G c x→r G' c x
def Yr.v{α:Type}(R:Rep α):Yr α where
 n:=1
 r G c x:=∃v,c=[v]∧R.r G [v] x
 len h:=by obtain⟨v,h,_⟩:=h;rw[h];rfl
 mono hg h:=by obtain⟨v,h,h2⟩:=h;exact⟨v,h,R.mono hg h2⟩
def Yr.a{α:Type}(R:Rep α):Yr α where
 n:=1
 r G c x:=∃cs:List Value,c=[.agg cs.toArray]∧R.r G cs x
 len h:=by obtain⟨v,h,_⟩:=h;rw[h];rfl
 mono hg h:=by obtain⟨v,h,h2⟩:=h;exact⟨v,h,R.mono hg h2⟩
def Yr.pair{α β:Type}(A:Yr α)(B:Yr β):Yr (α×β) where
 n:=A.n+B.n
 r G c x:=∃c1 c2,c=c1++c2∧A.r G c1 x.1∧B.r G c2 x.2
 len h:=by obtain⟨_,_,h,h1,h2⟩:=h;rw[h,List.length_append,A.len h1,B.len h2]
 mono hg h:=by obtain⟨c1,c2,h,h1,h2⟩:=h;exact⟨c1,c2,h,A.mono hg h1,B.mono hg h2⟩
def IterR(P:Program){α:Type}(Y:Yr α)(f:FuncId)(cap:List Value)(G:Hp)(l:List α):Prop:=
 ∀Fs G1,HpLe G G1→G1∈Fs→Iter P f cap Fs l.length (fun i v=>∃x,l[i]?=some x∧Y.r G1 v x)
theorem IterR.mono{P:Program}{α:Type}{Y:Yr α}{f:FuncId}{cap:List Value}{G G':Hp}{l:List α}(hg:HpLe G G')(h:IterR P Y f cap G l):IterR P Y f cap G' l:=fun Fs G1 h1 h2=>h Fs G1 (hg.trans h1) h2
section
variable{P:Program}{c:Cx}{R:Value→World→Prop}{nt:Nat}{w0:World}{S0:List Nat}{df:List Deferred}{ρ ρ':Env}{Fs Fs' Fin B:List Hp}{bl bl':Blks}{sl sl':List OwnS}
 {K K':Act→World→Prop} {k:List Item} {ty:TypeId} {G:Hp}
theorem Bd.trans{G':Hp}(h:Bd w0 S0 (G::B) G')(hB:Bd w0 S0 B G):Bd w0 S0 B G':=fun b o hb=>by
 rcases h b o hb with h |h | ⟨F,hF,hb'⟩
 ·exact .inl h
 ·exact .inr (.inl h)
 ·rcases List.mem_cons.1 hF with rfl |hF
  ·exact hB b o hb'
  ·exact .inr (.inr ⟨F,hF,hb'⟩)
end
end Go.Proofs.YtnfalgmfmiolbaaGreat
end

section
namespace Go.Proofs.YtnfalgmfmiolbaaGreat
open Go.RowKit
theorem Xm7{α:Type}{A:Rep α}{G:Hp}{f:α→List Value}{Q:α→Prop}{a:Option Addr}{n c:Nat}{l:List α}(h:Sl G A.sz (.slice a n c) (l.map f))(hq:∀y∈l,Q y)(hm:n≤maxLen)(hg:l.length=n)(hr:∀x,Q x→A.r G (f x) x):SlR A G a c l:=by
 subst hg
 refine⟨hm,_,h,by simp,fun i x y h1 h2=>?_⟩
 rw[List.getElem?_map,h2] at h1
 obtain rfl:=Option.some.inj h1
 exact hr y (hq y (List.mem_of_getElem? h2))
theorem slInts{k:IntKind}{G:Hp}{Q:Int→Prop}{a:Option Addr}{n c:Nat}{l:List Int}(h:Sl G 1 (.slice a n c) (l.map fun x=>[Value.int k x]))(hq:∀y∈l,Q y)(hm:n≤maxLen)(hg:l.length=n):SlR (Rep.int k) G a c l:=Xm7 h hq hm hg (fun _ _=>rfl)
end Go.Proofs.YtnfalgmfmiolbaaGreat
end
