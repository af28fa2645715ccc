/- Texts of this proof, put together: Push. -/
import Derived.Test.YtehibiplodjofaaDoorProg
import Derived.Test.YtehibiplodjofaaDoorMRouteAbouta
import Derived.Test.YtehibiplodjofaaDoorMRouteAbouth
import Derived.Laws.AppendOwnNone
import Derived.DataReads
section
/- append of a whole slice of bytes (nil or not) to a row of the call's own. -/
namespace Go.Proofs.YtehibiplodjofaaDoor
open Go.RowKit
set_option linter.unusedVariables false
set_option linter.unusedSimpArgs false
/-- A slice value and the cells that it shows. -/
def Src (w : World) (u : Value) (ys : List Value) : Prop := (∃ A c, u = .slice A 0 c ∧ (A = none → c = 0) ∧ ys = []) ∨ ∃ b off c, u = .slice (some ⟨b, off, none⟩) ys.length c ∧ ys.length ≤ c ∧ ∀ j x, ys[j]? = some x → w.cell? ⟨b, off + j, none⟩ = some x
theorem Src.block {w w' : World} {u : Value} {ys : List Value} (h : Src w u ys) (hb : Below w.heap.size w w') : Src w' u ys := by
  rcases h with h | ⟨b, off, c, hu, hle, hc⟩
  · exact .inl h
  · exact .inr ⟨b, off, c, hu, hle, fun j x hj => below_cell hb (hc j x hj)⟩
theorem Src.rd {w : World} {A : Option Addr} {n c : Nat} {ys : List Value} (h : Src w (.slice A n c) ys) : Rd w A ys ∧ n = ys.length := by
  rcases h with ⟨A', c', h, -, rfl⟩ | ⟨b, off, c', hu, -, hc⟩
  · injection h with h1 h2 h3
    exact ⟨fun h => absurd rfl h, by simp [h2]⟩
  · injection hu with h1 h2 h3
    exact ⟨fun _ => ⟨b, off, h1, hc⟩, h2⟩
/-- What is left of a slice behind k elements (the form of the walk: at the end of the room the address stays). -/
theorem Src.drop {w : World} {b off n c k : Nat} {ys : List Value} (h : Src w (.slice (some ⟨b, off, none⟩) n c) ys) (hk : k ≤ n) :
    Src w (.slice (if c = k then some ⟨b, off, none⟩ else some ⟨b, off + k, none⟩) (n - k) (c - k)) (ys.drop k) := by
  rcases h with ⟨A', c', h, _, rfl⟩ | ⟨b', off', c', hu, hle, hc⟩
  · injection h with h1 h2 h3
    subst h2
    obtain rfl : k = 0 := by omega
    refine .inl ⟨_, _, rfl, fun e => ?_, by simp⟩
    split at e <;> cases e
  · injection hu with h1 h2 h3
    injection h1 with h1
    injection h1 with h1 h4
    subst h1 h4 h3
    have hl : (ys.drop k).length = n - k := by simp; omega
    by_cases e : c = k
    · rw [if_pos e]
      refine .inr ⟨b, off, c - k, by rw [hl], by rw [hl]; omega, fun j x hj => ?_⟩
      have := (List.getElem?_eq_some_iff.1 hj).1
      omega
    · rw [if_neg e]
      refine .inr ⟨b, off + k, c - k, by rw [hl], by rw [hl]; omega, fun j x hj => ?_⟩
      rw [Nat.add_assoc]
      exact hc (k + j) x (by rw [List.getElem?_drop] at hj; exact hj)
theorem wpList_pushL {P : Program} {w : World} {ops : Array Oper} {rest : List Oper} {o : Oper} {a : Act} {Q : Exit → Act → World → Prop} (hgd : o.guard = none) (sl x : Operand) (t : TypeId)
    (ho : o.op = .call { callee := .builtin .append, args := #[sl, x], argTypes := #[t, t] })
    (base : Nat) (e : TypeId) (i : TypeInfo) (z : Value) (bytes : Nat) (ht : P.underlying t = some (.slice e)) (hi : P.info? e = some i) (hz : i.zero = some z)
    (hsize : i.size = 1) (hby : i.bytes = bytes) (hzs : z.cells.size = 1)
    (v : Value) (n : Nat) (xs : List Value) (hs : a.eval sl = v) (hown : w.ownsRow base e 1 v n xs)
    (u : Value) (ys : List Value) (hx : a.eval x = u) (hr : Src w u ys) (h1 : ∀ y ∈ ys, y.oneCell' = true)
    (hl : n + ys.length ≤ 1000000000) (hb : bytes ≤ 100000) (hbase : base ≤ w.heap.size)
    (h : ∀ v' w', w'.ownsRow base e 1 v' (n + ys.length) (xs ++ ys) → w.grownBy w' v.ownBlock → wpList P ops Q rest (a.put o.dst v') w') :
    wpList P ops Q (o :: rest) a w := by
  rcases hr with ⟨A, c, rfl, hA, rfl⟩ | ⟨b, off, c, rfl, -, hc⟩
  · cases A with
    | none =>
      obtain rfl := hA rfl
      refine wpList_append_own_none hgd sl x t ho base e i 1 ht hi v n xs hs hown hx ?_
      exact h v w (by simpa using hown) (World.grownBy.refl _ _)
    | some ad =>
      refine wpList_append_own_at _ hgd sl x t ho base e i z 1 bytes ht hi hz hsize hby hzs (by decide) v n xs hs hown ad 0 c [] hx (by simp) ?_ h1 ?_ ?_ hbase fun v' w' h2 h3 _ _ => h v' w' h2 h3
      · intro j u' hu
        simp at hu
      · unfold maxLen; simp at hl; omega
      · calc (n + 0) * bytes ≤ 1000000000 * 100000 := Nat.mul_le_mul hl hb
          _ ≤ _ := by decide
  · refine wpList_append_own_at _ hgd sl x t ho base e i z 1 bytes ht hi hz hsize hby hzs (by decide) v n xs hs hown ⟨b, off, none⟩ ys.length c ys hx (by simp) ?_ h1 ?_ ?_ hbase fun v' w' h2 h3 _ _ => h v' w' h2 h3
    · intro j u' hu
      have := hc j u' hu
      cases j <;> simpa [Addr.add] using this
    · unfold maxLen; omega
    · calc (n + ys.length) * bytes ≤ 1000000000 * 100000 := Nat.mul_le_mul hl hb
        _ ≤ _ := by decide
end Go.Proofs.YtehibiplodjofaaDoor
end
