/-
  An array's element at an index that turns.
-/
import Derived.Test.YtbhmhindommaeaaL7
namespace Go.Proofs.Ytbhmhindommaeaa
open Go.RowKit

section
variable {P : Program} {ρ : Env} {Fs : List Hp} {bl : Blks} {sl : List OwnS} {ty : TypeId}
theorem QOp.index_arD {l : List Int} {t el : TypeId} {x i : Operand} {k k2 : IntKind} {n u : Int} {m bytes : Nat} {z : List Value} (hx : ev ρ x = some (.agg (l.map (Value.int k2)).toArray)) (hi : ev ρ i = some (.int k n)) (ht : arOf P t = some (m, el)) (hel : TyI P el false 1 bytes z)
    (hm : l.length = m) (hu : lidx l n = some u) : QOp P ρ Fs bl sl (.index t x i) ty (.int k2 u) := by
  obtain ⟨h0, h1, h2⟩ := lidx_some hu
  exact .index_ar hx hi ht hel h0 (by omega) (by rw [Nat.mul_one, List.getElem?_map, h2]; rfl)
end
end Go.Proofs.Ytbhmhindommaeaa
