/- From rows of cells to the print's kinds: plain lemmas. -/
import Derived.Test.YthnhfbdoielekaaDoorPr0
namespace Go.Proofs.YthnhfbdoielekaaDoor.Pr
open Go.RowKit Go.Proofs.YthnhfbdoielekaaDoorW.PrintWords Go.Proofs.YthnhfbdoielekaaDoorW.PrintLast Go.Proofs.YthnhfbdoielekaaDoorW.PrintMore
set_option linter.unusedVariables false
set_option linter.unusedSimpArgs false
theorem reps_flat {α β : Type} (R : α → List Value → Prop) (size : Nat) (f : β → α) (c : β → List Value) (hc : ∀ b, (c b).length = size) (hR : ∀ b, R (f b) (c b)) : ∀ l : List β, Reps R size (l.map f) (l.flatMap c)
  | [] => Reps.none _ _
  | b :: r => by
    obtain ⟨h1, h2⟩ := reps_flat R size f c hc hR r
    refine ⟨by rw [List.flatMap_cons, List.length_append, hc, h1]; simp [Nat.add_mul]; omega, fun j p hp => ?_⟩
    cases j with
    | zero =>
      simp only [List.map_cons, List.getElem?_cons_zero, Option.some.injEq] at hp
      subst hp
      rw [Nat.zero_mul, List.drop_zero, List.flatMap_cons, ← hc b, List.take_left]
      exact hR b
    | succ j =>
      simp only [List.map_cons, List.getElem?_cons_succ] at hp
      rw [List.flatMap_cons, Nat.succ_mul, Nat.add_comm, ← List.drop_drop, ← hc b, List.drop_left, hc b]
      exact h2 j p hp
theorem R_of_own {α β : Type} {d : Kd α} {e : Nat} {w : World} {base : Nat} {v : Value} (f : β → α) (c : β → List Value) (hc : ∀ b, (c b).length = d.sz) (l : List β) (hR : ∀ ok b, d.M w base ok (f b) (c b)) (h : w.ownsRow base e d.sz v l.length (l.flatMap c)) : Kd.R d e w base (fun _ => True) v (l.map f) :=
  ⟨fun _ _ => trivial, _, by rw [List.length_map]; exact h, reps_flat _ _ f c hc (fun b => hR _ b) l⟩
theorem drawn_of {w w' : World} (h : ∃ n, w' = w.drewN n) : Drawn0 w w' := ⟨h⟩
theorem drawn_refl {w w' : World} (h : w' = w) : Drawn0 w w' := ⟨0, by rw [h]; rfl⟩
end Go.Proofs.YthnhfbdoielekaaDoor.Pr
