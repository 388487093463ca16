/-
  Contracts of lifted functions: RetS (nothing that reads is new), RetW (what is handed back may lie in new memory).
-/
import Derived.Test.YtbhmhindommaeaaL2
namespace Go.Proofs.Ytbhmhindommaeaa
open Go.RowKit

def RetS (P : Program) (f : FuncId) (args : Array Value) (Fs : List Hp) (bin : Blks) (sin : List OwnS) (Q : Value → Blks → List OwnS → Prop) : Prop :=
  RetG P f args Fs bin sin fun v _ bl sl => Q v bl sl
def RetW (P : Program) (f : FuncId) (args : Array Value) (Fs : List Hp) (bin : Blks) (sin : List OwnS) (Q : Value → Blks → List OwnS → Hp → Prop) : Prop :=
  RetG P f args Fs bin sin fun v Fr bl sl => ∀ G', Ext (Fr :: Fs) G' → Q v bl sl G'

section
variable {P : Program} {c : Cx} {R : Value → World → Prop} {nt : Nat} {w0 : World} {S0 : List Nat} {df : List Deferred} {ρ ρ' : Env} {Fs Fs' Fin B : List Hp} {bl bl' : Blks} {sl sl' : List OwnS}
  {K K' : Act → World → Prop} {k : List Item} {ty : TypeId} {G : Hp}

theorem RetG.mono {f : FuncId} {args : Array Value} {bin : Blks} {sin : List OwnS} {Post Post' : Value → Hp → Blks → List OwnS → Prop} (h : RetG P f args Fs bin sin Post) (hp : ∀ v Fr bl sl, Post v Fr bl sl → Post' v Fr bl sl) : RetG P f args Fs bin sin Post' :=
  fun w h1 h2 h3 h4 h5 => (h w h1 h2 h3 h4 h5).mono fun _ _ ⟨Fr, bl, sl, a, b, d⟩ => ⟨Fr, bl, sl, a, b, hp _ _ _ _ d⟩

/-- A contract without lent blocks, in the elder words. -/
theorem RetS.ret {f : FuncId} {args : Array Value} {Q : Value → Blks → List OwnS → Prop} (h : RetS P f args Fs [] [] Q) : Ret P f args Fs [] fun v _ bl sl => Q v bl sl :=
  fun w h1 h2 h3 h4 => h w h1 h2 (by simp) (by simp [blks]) (by simp [blks])
theorem RetS.retv {f : FuncId} {args : Array Value} {Q : Value → Prop} (h : RetS P f args Fs [] [] (fun v bl sl => Q v ∧ bl = [] ∧ sl = [])) : RetV P f args Fs Q := h.ret

theorem Cov.dup (hG : G ∈ Fs) (h : Cov nt w0 S0 df ρ (G :: Fs) bl sl K) : Cov nt w0 S0 df ρ Fs bl sl K :=
  Cov.less (G :: Fs) (fun F hF => by rcases List.mem_cons.1 hF with rfl | hF; exact hG; exact hF) h

theorem Cov.callS {b1 b2 : Blks} {s1 s2 : List OwnS} (vs cap : List Value) {d : Nat} {f : FuncId} {fop : Operand} {args : Array Operand} {ts : Array TypeId} {Q : Value → Blks → List OwnS → Prop} (hs : Stp P K' ⟨some d, .call ⟨.value fop, args, ts⟩, ty, none⟩ K)
    (hf : ev ρ fop = some (.func (.func f) #[] cap.toArray)) (ha : args.toList.map (ev ρ) = vs.map some) (hcall : ∀ args w, (callFunc f args).run P w = .ok (.enter f args) w) (hbl : bl = b1 ++ b2) (hsl : sl = s1 ++ s2) (hr : RetS P f (vs ++ cap).toArray Fs b1 s1 Q) (hd : Nat.blt d nt = true)
    (hk : ∀ v bo so, Q v bo so → Cov nt w0 S0 df ((d, v) :: ρ) Fs (bo ++ b2) (so ++ s2) K) : Cov nt w0 S0 df ρ Fs bl sl K' :=
  Cov.callg vs cap hs hf ha hcall hbl hsl hr hd fun v Fr bo so _ h => Cov.less Fs (fun _ hF => List.mem_cons_of_mem _ hF) (hk v bo so h)

theorem Cov.callW {b1 b2 : Blks} {s1 s2 : List OwnS} (vs cap : List Value) {d : Nat} {f : FuncId} {fop : Operand} {args : Array Operand} {ts : Array TypeId} {Q : Value → Blks → List OwnS → Hp → Prop} (hs : Stp P K' ⟨some d, .call ⟨.value fop, args, ts⟩, ty, none⟩ K)
    (hf : ev ρ fop = some (.func (.func f) #[] cap.toArray)) (ha : args.toList.map (ev ρ) = vs.map some) (hcall : ∀ args w, (callFunc f args).run P w = .ok (.enter f args) w) (hbl : bl = b1 ++ b2) (hsl : sl = s1 ++ s2) (hr : RetW P f (vs ++ cap).toArray (G :: B) b1 s1 Q) (hd : Nat.blt d nt = true) (hB : Bd w0 S0 B G)
    (hk : ∀ v bo so G', HpLe G G' → Bd w0 S0 B G' → Q v bo so G' → Cov nt w0 S0 df ((d, v) :: ρ) (G' :: B) (bo ++ b2) (so ++ s2) K) : Cov nt w0 S0 df ρ (G :: B) bl sl K' :=
  Cov.callg vs cap hs hf ha hcall hbl hsl hr hd fun v Fr bo so hfr h =>
    Cov.union (Fin := B) (bd_cons (Bd.fresh hfr) (bd_cons hB bd_fin)) fun G' he hb' =>
      Cov.less (G' :: B) (fun F hF => by rcases List.mem_cons.1 hF with rfl | hF; exact List.mem_cons_self; exact List.mem_cons_of_mem _ (List.mem_cons_of_mem _ (List.mem_cons_of_mem _ hF)))
        (hk v bo so G' (ext_le he (List.mem_cons_of_mem _ List.mem_cons_self)) hb' (h G' he))

theorem Cov.retS {fn : Func} {items : List Item} (hit : items = [] ∨ ∃ k, items = .code .ret :: k) (rs : List ResultVar) (vs : List Value) {Q : Value → Blks → List OwnS → Prop} (hro : c.ro = none) (hf : P.funcs[c.fn]? = some fn) (hrs : fn.results = rs.toArray)
    (hres : RVs P ρ Fs bl sl rs vs) (hsub : ∀ F ∈ Fin, F ∈ Fs) (hpost : Q (retVal vs) bl sl) : Cov nt w0 S0 [] ρ Fs bl sl (Run P c (RP w0 S0 Fin (fun v _ bl sl => Q v bl sl)) items) :=
  Cov.leave (Fr := empHp) hit rs vs hro hf hrs hres hsub (.inl rfl) (fresh_emp _) hpost

theorem Cov.retW {fn : Func} {items : List Item} (hit : items = [] ∨ ∃ k, items = .code .ret :: k) (rs : List ResultVar) (vs : List Value) {Q : Value → Blks → List OwnS → Hp → Prop} (hro : c.ro = none) (hf : P.funcs[c.fn]? = some fn) (hrs : fn.results = rs.toArray)
    (hres : RVs P ρ Fs bl sl rs vs) (hsub : ∀ F ∈ Fin, F ∈ Fs) (hG : G ∈ Fs) (hbd : Bd w0 S0 Fin G) (hS : ∀ b ∈ S0, b ∈ blks bl sl) (hpost : ∀ G', HpLe G G' → Q (retVal vs) bl sl G') :
    Cov nt w0 S0 [] ρ Fs bl sl (Run P c (RP w0 S0 Fin (fun v Fr bl sl => ∀ G', Ext (Fr :: Fin) G' → Q v bl sl G')) items) := by
  intro a w hfi hi
  exact (Cov.part hG (fun a w hfi hinv => Cov.leave (Fr := Proofs.Ytbhmhindommaeaa.part w0 G) hit rs vs hro hf hrs (RVs_fs (fun F hF => List.mem_cons_of_mem _ hF) rs vs hres) (fun F hF => List.mem_cons_of_mem _ (hsub F hF)) (.inr List.mem_cons_self) (part_fresh w0 G)
    (fun G' he => hpost G' (part_ext hbd (fun b hb => hi.apart b (hS b hb) G hG) he)) a w hfi hinv)) a w hfi hi

theorem RetS.of {f : FuncId} {fn : Func} {code : Code} {vs : List Value} {bin : Blks} {sin : List OwnS} {Q : Value → Blks → List OwnS → Prop} (hf : P.funcs[f]? = some fn) (hb : fn.body = some code) (hn : fn.ntmps = nt) (ρ0 : Env) (hρ : ArgsOk vs ρ0) (hlen : Nat.ble vs.length nt = true) (hG : G ∈ Fs)
    (h : ∀ w0 S0, S0 = blks bin sin → Bd w0 S0 Fs G → Cov nt w0 S0 [] ρ0 (G :: Fs) bin sin (Run P ⟨f, none⟩ (RP w0 S0 Fs (fun v _ bl sl => Q v bl sl)) [.code code])) : RetS P f vs.toArray Fs bin sin Q :=
  RetG.of hf hb hn ρ0 hρ hlen fun w0 => Cov.dup hG (h w0 _ rfl (Bd.fin hG))
theorem RetW.of {f : FuncId} {fn : Func} {code : Code} {vs : List Value} {bin : Blks} {sin : List OwnS} {Q : Value → Blks → List OwnS → Hp → Prop} (hf : P.funcs[f]? = some fn) (hb : fn.body = some code) (hn : fn.ntmps = nt) (ρ0 : Env) (hρ : ArgsOk vs ρ0) (hlen : Nat.ble vs.length nt = true) (hG : G ∈ Fs)
    (h : ∀ w0 S0, S0 = blks bin sin → Bd w0 S0 Fs G → Cov nt w0 S0 [] ρ0 (G :: Fs) bin sin (Run P ⟨f, none⟩ (RP w0 S0 Fs (fun v Fr bl sl => ∀ G', Ext (Fr :: Fs) G' → Q v bl sl G')) [.code code])) : RetW P f vs.toArray Fs bin sin Q :=
  RetG.of hf hb hn ρ0 hρ hlen fun w0 => Cov.dup hG (h w0 _ rfl (Bd.fin hG))
end
end Go.Proofs.Ytbhmhindommaeaa
