/- stowagekit: CopyBytes, Pick. -/
import Derived.Test.YtggbgpmjfncklaaProg
import Derived.Test.YtggbgpmjfncklaaOwnB
import Derived.Test.YtggbgpmjfncklaaKit
namespace Go.Proofs.Ytggbgpmjfncklaa
open Go.RowKit
set_option linter.unusedVariables false
set_option linter.unusedSimpArgs false
theorem ownB_new (w : World) (t : TypeId) : OwnB (w.alloc (.cells #[] t)) w.heap.size t (.slice (some ⟨w.heap.size, 0, none⟩) 0 0) [] := by
  refine .inr ⟨w.heap.size, [], rfl, Nat.le_refl _, ?_, by simp⟩
  rw [heap_alloc_new w]
  rfl
set_option maxHeartbeats 400000 in
theorem copyB_any (b : Value) (l : List UInt8) (w : World) (hl : l.length ≤ 100000000) (hb : Src w b (Lib.byteCells l)) :
    Calls Try.prog 19 #[b] w fun e w' => (∃ x, e = .returned x ∧ OwnB w' w.heap.size 5 x l) ∧ Below w.heap.size w w' := by
  obtain ⟨i0, hi, hz0, hz1, hz2⟩ := info_parts infoU8
  have hown := ownB_new w 5
  have hbw := (Below.refl w.heap.size w).alloc (Nat.le_refl _) (.cells #[] 5)
  have hsrc := hb.block hbw
  go_enter Try.func19, Try.ntmps19
  go_wp2_with (at_builtin; (refine wpList_appB rfl _ _ 22 22 rfl 5 i0 Try.underlying22 hi hz0 hz1 hz2 w.heap.size _ [] rfl hown _ l rfl (srcG_of Try.underlying22 hsrc) (by simp; omega) hbw.size ?_; intro v1 w1 hownN hg; (replace hbw := hbw.grown hg hbw.size (fun k hk => (hown.lt k hk).1)); (replace hown := hownN); clear hownN hg))
  go_ret
  exact ⟨⟨_, rfl, hown⟩, hbw⟩
theorem pick_any (x : Int) (n : Nat) (w : World) (h0 : 0 < n) (hn : n ≤ 1000000000) (h1 : -9223372036854775808 ≤ x) (h2 : x ≤ 9223372036854775807) :
    Calls Try.prog 20 #[.int .i64 x, .int .i64 (n : Int)] w fun e w' => (∃ k : Nat, k < n ∧ e = .returned (.int .i64 (k : Int))) ∧ w' = w := by
  have hm1 : x.tmod n < n := Int.tmod_lt_of_pos _ (by omega)
  have hm2 : -(n : Int) < x.tmod n := by
    have := Int.neg_tmod x n
    have h := Int.tmod_lt_of_pos (-x) (b := (n : Int)) (by omega)
    omega
  obtain ⟨r, hr⟩ : ∃ r, x.tmod n = r := ⟨_, rfl⟩
  rw [hr] at hm1 hm2
  have hw : IntKind.i64.wrap r = r := IntWalk.i64_in _ (by omega)
  by_cases hneg : r < 0
  · have hw2 : IntKind.i64.wrap (r + n) = r + n := IntWalk.i64_in _ (by omega)
    obtain ⟨k, hk⟩ : ∃ k : Nat, r + n = (k : Int) := ⟨(r + n).toNat, by omega⟩
    go_enter Try.func20, Try.ntmps20
    go_wp2
    all_goals try (exfalso; omega)
    go_ret
    exact ⟨⟨k, by omega, rfl⟩, rfl⟩
  · obtain ⟨k, hk⟩ : ∃ k : Nat, r = (k : Int) := ⟨r.toNat, by omega⟩
    go_enter Try.func20, Try.ntmps20
    go_wp2
    all_goals try (exfalso; omega)
    go_ret
    exact ⟨⟨k, by omega, by first | rfl | (show Ending.returned (.int .i64 r) = _; rw [hk])⟩, rfl⟩
end Go.Proofs.Ytggbgpmjfncklaa
