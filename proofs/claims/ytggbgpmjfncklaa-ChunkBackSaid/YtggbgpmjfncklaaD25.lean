/- package chunk: headed, data, trailer; Decode. -/
import Derived.Test.YtggbgpmjfncklaaProg
import Derived.Test.YtggbgpmjfncklaaC25
import Derived.BigRegion
import Derived.BigQuiet
namespace Go.Proofs.Ytggbgpmjfncklaa
open Go.RowKit
set_option linter.unusedVariables false
set_option linter.unusedSimpArgs false
set_option maxHeartbeats 1000000 in
theorem trailer_any (B D : Nat) (d : Dec) (v : Value) (c : UInt8) (w : World) (h : DecAt D d v w) (hB : B ≤ D) (hl : d.line ≤ 100) (ht : d.trailers ≤ 100) :
    Calls Try.prog 33 #[.pointer (some ⟨D, 0, none⟩), .int .u8 (c.toNat : Int)] w (StepQ B D w (trailerD d c)) := by
  have c0 := h.c0
  have f0 := h.fz 0
  have c2 := h.c2
  have f2 := h.fz 2
  have c6 := h.c6
  have f6 := h.fz 6
  have hst := store_fn (P := Try.prog) D (.func (.func 36) #[.pointer (some ⟨D, 0, none⟩)] #[]) rfl
  by_cases hc : c = 13
  · have hr : trailerD d c = (0, { d with ph := 6 }) := if_pos hc
    have hd := h.set 0 (phF D 6) { d with ph := 6 } rfl rfl
    have hbw := (Below.refl B w).setCell (p := ⟨D, 0, none⟩) hB (.func (.func 36) #[.pointer (some ⟨D, 0, none⟩)] #[])
    rw [hr]
    subst hc
    clear hr
    go_enter Try.func33, Try.ntmps33
    go_wp2
    go_ret
    exact ⟨rfl, fun _ => ⟨v, hd⟩, hbw⟩
  · have k := ne_nat (n := 13) (by decide) hc
    have hsh := shows_any c
    by_cases hs : showsB c = true
    · by_cases hl0 : d.line = 0
      · rw [hl0] at c2
        by_cases h16 : 16 < d.trailers + 1
        · have hr : trailerD d c = (3, d) := by unfold trailerD; rw [if_neg hc, if_pos hs, if_pos hl0, if_pos h16]
          have k16 : (16 : Int) < (d.trailers : Int) + 1 := by omega
          rw [hr]
          rw [hs] at hsh
          clear hr hl0
          go_enter Try.func33, Try.ntmps33
          go_wp2_with fail
          refine (hsh _).mono ?_
          rintro e w' ⟨rfl, rfl⟩
          go_wp2
          go_ret
          exact StepQ.bad ((Below.refl B w').setCell (p := ⟨D, 6, none⟩) hB _) (by decide)
        · have hr : trailerD d c = longD { d with trailers := d.trailers + 1 } := by unfold trailerD; rw [if_neg hc, if_pos hs, if_pos hl0, if_neg h16]
          have k16 : ¬ (16 : Int) < (d.trailers : Int) + 1 := by omega
          have hd := h.set 6 (.int .i64 ((d.trailers : Int) + 1)) { d with trailers := d.trailers + 1 } rfl rfl
          have hbw := (Below.refl B w).setCell (p := ⟨D, 6, none⟩) hB (.int .i64 ((d.trailers : Int) + 1))
          have HL := Lib.hid hl0
          rw [hr]
          rw [hs] at hsh
          clear hr hl0
          go_enter Try.func33, Try.ntmps33
          go_wp2_with fail
          refine (hsh _).mono ?_
          rintro e w' ⟨rfl, rfl⟩
          go_wp2_with fail
          refine (long_any B D _ v _ hd hB (by simp only; omega)).mono ?_
          rintro e w2 hq
          obtain ⟨rfl, h2, h3⟩ := hq
          go_wp2
          go_ret
          exact ⟨rfl, h2, hbw.trans h3⟩
      · have hr : trailerD d c = longD d := by unfold trailerD; rw [if_neg hc, if_pos hs, if_neg hl0]
        have kl : ¬ (d.line : Int) = 0 := by omega
        rw [hr]
        rw [hs] at hsh
        clear hr
        go_enter Try.func33, Try.ntmps33
        go_wp2_with fail
        refine (hsh _).mono ?_
        rintro e w' ⟨rfl, rfl⟩
        go_wp2_with fail
        refine (long_any B D d v _ h hB (by omega)).mono ?_
        rintro e w2 hq
        obtain ⟨rfl, h2, h3⟩ := hq
        go_wp2
        go_ret
        exact ⟨rfl, h2, h3⟩
    · have hsf : showsB c = false := by simpa using hs
      have hr : trailerD d c = (4, d) := by unfold trailerD; rw [if_neg hc, if_neg hs]
      rw [hr]
      rw [hsf] at hsh
      clear hr
      go_enter Try.func33, Try.ntmps33
      go_wp2_with fail
      refine (hsh _).mono ?_
      rintro e w' ⟨rfl, rfl⟩
      go_wp2
      go_ret
      exact StepQ.bad (Below.refl _ _) (by decide)
theorem DecAt.drewN {D : Nat} {d : Dec} {v : Value} {w : World} (h : DecAt D d v w) (n : Nat) : DecAt D d v (w.drewN n) := ⟨h.cells, h.own⟩
theorem own_forms {w : World} {B n : Nat} {e : TypeId} {v : Value} {xs : List Value} (h : w.ownsRow B e 1 v n xs) : ∃ A c, v = .slice A n c := by
  rcases Go.Joins.ownsRow_forms h with ⟨rfl, rfl⟩ | ⟨g, cap, rfl⟩
  · exact ⟨none, 0, rfl⟩
  · exact ⟨_, cap, rfl⟩
set_option maxHeartbeats 1000000 in
theorem headed_any (B D : Nat) (d : Dec) (v : Value) (c : UInt8) (w : World) (h : DecAt D d v w) (hB : B ≤ D) (hb : d.body.length ≤ 1000000) (hsz : d.size ≤ 1000000000) (hp : d.ph = 1) :
    Calls Try.prog 26 #[.pointer (some ⟨D, 0, none⟩), .int .u8 (c.toNat : Int)] w (StepQ B D w (headedD d c)) := by
  obtain ⟨A, cp, hv⟩ := own_forms h.own
  subst hv
  have c0 := h.c0
  have f0 := h.fz 0
  have c1 := h.c1
  have c2 := h.c2
  have f2 := h.fz 2
  have c4 := h.c4
  have hst := store_fn (P := Try.prog) D (.func (.func 32) #[.pointer (some ⟨D, 0, none⟩)] #[]) rfl
  have hst2 := store_fn (P := Try.prog) D (.func (.func 33) #[.pointer (some ⟨D, 0, none⟩)] #[]) rfl
  by_cases hc : c = 10
  · by_cases hbig : 65536 < d.body.length + d.size
    · have hr : headedD d c = (3, d) := by unfold headedD; rw [if_pos hc, if_pos hbig]
      have k : (65536 : Int) < (d.body.length : Int) + (d.size : Int) := by omega
      rw [hr]
      subst hc
      clear hr
      go_enter Try.func26, Try.ntmps26
      go_wp2
      go_quiet (fail)
      go_wp2
      go_ret
      exact StepQ.bad (below_drewN (Below.refl _ _) _) (by decide)
    · have k : ¬ (65536 : Int) < (d.body.length : Int) + (d.size : Int) := by omega
      by_cases h0 : d.size = 0
      · have hr : headedD d c = (0, { d with line := 0, ph := 5 }) := by unfold headedD; rw [if_pos hc, if_neg hbig, if_pos h0]
        rw [hr]
        rw [h0] at c4
        subst hc
        clear hr
        have HZ := Lib.hid h0
        clear h0 hp
        go_enter Try.func26, Try.ntmps26
        go_wp2
        go_quiet (fail)
        have hd1 := (h.drewN nq |>.set 2 (.int .i64 0) { d with line := 0 } rfl rfl).set 0 (.func (.func 32) #[.pointer (some ⟨D, 0, none⟩)] #[]) { d with line := 0, ph := 2 } rfl rfl
        have hd := hd1.set 0 (.func (.func 33) #[.pointer (some ⟨D, 0, none⟩)] #[]) { d with line := 0, ph := 5 } rfl rfl
        have hst3 := hst2 _ (by rw [hd1.c0]; rfl) (hd1.fz 0)
        have hbw := ((((below_drewN (Below.refl B w) nq).setCell (p := ⟨D, 2, none⟩) hB (.int .i64 0)).setCell (p := ⟨D, 0, none⟩) hB (.func (.func 32) #[.pointer (some ⟨D, 0, none⟩)] #[])).setCell (p := ⟨D, 0, none⟩) hB (.func (.func 33) #[.pointer (some ⟨D, 0, none⟩)] #[]))
        go_wp2
        go_ret
        exact ⟨rfl, fun _ => ⟨_, hd⟩, hbw⟩
      · have hr : headedD d c = (0, { d with line := 0, ph := 2 }) := by unfold headedD; rw [if_pos hc, if_neg hbig, if_neg h0]
        rw [hr]
        have k0 : ¬ (d.size : Int) = 0 := by omega
        subst hc
        clear hr hp
        go_enter Try.func26, Try.ntmps26
        go_wp2
        go_quiet (fail)
        have hd := (h.drewN nq |>.set 2 (.int .i64 0) { d with line := 0 } rfl rfl).set 0 (.func (.func 32) #[.pointer (some ⟨D, 0, none⟩)] #[]) { d with line := 0, ph := 2 } rfl rfl
        have hbw := (((below_drewN (Below.refl B w) nq).setCell (p := ⟨D, 2, none⟩) hB (.int .i64 0)).setCell (p := ⟨D, 0, none⟩) hB (.func (.func 32) #[.pointer (some ⟨D, 0, none⟩)] #[]))
        go_wp2
        go_ret
        exact ⟨rfl, fun _ => ⟨_, hd⟩, hbw⟩
  · have hr : headedD d c = (4, d) := if_neg hc
    have k := ne_nat (n := 10) (by decide) hc
    rw [hr]
    clear hr
    go_enter Try.func26, Try.ntmps26
    go_wp2
    go_ret
    exact StepQ.bad (Below.refl _ _) (by decide)
theorem DecAt.rowAt {D : Nat} {d : Dec} {v : Value} {w w2 : World} {o : Obj} (h : DecAt D d v w) (hg : (w.alloc o).grownBy w2 v.ownBlock) :
    w2.heap[D]? = some (.cells (cells8 (phF D d.ph) v d.line d.digits d.size d.behind d.trailers d.done) 42 (0, 0)) :=
  (hg.block D (by rw [World.size_alloc]; exact Nat.lt_succ_of_lt h.lt) (fun e => by have := (h.own.lt D e.symm).1; omega)).trans (((World.grownBy_alloc w o none).block D h.lt (by simp)).trans h.cells)
set_option maxHeartbeats 1000000 in
theorem data_any (B D : Nat) (d : Dec) (v : Value) (c : UInt8) (w : World) (h : DecAt D d v w) (hB : B ≤ D) (hb : d.body.length ≤ 1000000) (hs0 : 1 ≤ d.size) (hsz : d.size ≤ 1000000000) (hp : d.ph = 2) :
    Calls Try.prog 32 #[.pointer (some ⟨D, 0, none⟩), .int .u8 (c.toNat : Int)] w (StepQ B D w (dataD d c)) := by
  obtain ⟨i0, hi, hz0, hz1, hz2⟩ := info_parts infoU8
  obtain ⟨m, hm⟩ : ∃ m, d.size = m + 1 := ⟨d.size - 1, by omega⟩
  have c1 := h.c1
  have hD := h.lt
  have hst := store_fn (P := Try.prog) D (.func (.func 35) #[.pointer (some ⟨D, 0, none⟩)] #[]) rfl
  have key : ∀ (w2 : World) (g cap : Nat), D + 1 ≤ g → w2.ownsRow (D + 1) 5 1 (.slice (some ⟨g, 0, none⟩) (d.body.length + 1) cap) (d.body.length + 1) (Lib.byteCells d.body ++ [.int .u8 (c.toNat : Int)]) → w2.heap[D]? = some (.cells (cells8 (phF D d.ph) v d.line d.digits d.size d.behind d.trailers d.done) 42 (0, 0)) →
      DecAt D { d with body := d.body ++ [c], size := m } (.slice (some ⟨g, 0, none⟩) (d.body.length + 1) cap) ((w2.setCell ⟨D, 1, none⟩ (.slice (some ⟨g, 0, none⟩) (d.body.length + 1) cap)).setCell ⟨D, 4, none⟩ (.int .i64 (m : Int))) := fun w2 g cap hg hown hrow => by
    refine ⟨Go.Joins.block_setCell (Go.Joins.block_setCell hrow _) _, ?_⟩
    have ho := ownsRow_set (ownsRow_set hown (a := ⟨D, 1, none⟩) (by simp [Value.ownBlock]; omega) (.slice (some ⟨g, 0, none⟩) (d.body.length + 1) cap)) (a := ⟨D, 4, none⟩) (by simp [Value.ownBlock]; omega) (.int .i64 (m : Int))
    have h := ownsRow_snoc (l := d.body) ho c rfl
    rw [List.length_append] at h ⊢
    exact h
  have HK := Lib.hid key
  have hr : dataD d c = (0, { d with body := d.body ++ [c], size := m, ph := if m = 0 then 3 else d.ph }) := by unfold dataD; rw [hm]; simp
  rw [hr]
  have HM := Lib.hid hm
  clear hr key hp
  by_cases h1 : m = 0
  all_goals (
    go_enter Try.func32, Try.ntmps32
    go_wp2_with (at_builtin; go_must (refine wpList_push rfl _ _ 22 rfl (D + 1) 5 i0 (.int .u8 0) 1 Try.underlying22 hi hz0 hz1 hz2 rfl _ d.body.length (Lib.byteCells d.body) rfl (World.ownsRow.alloc h.own _) ⟨w.heap.size, 0, none⟩ _ rfl (cell_new _ _ _) rfl (by omega) (by omega) (by rw [World.size_alloc]; omega) ?_); intro v2 w2 hown2 hgrow hat; obtain ⟨g, cap, rfl, hg1, hg2⟩ := hown2.form (Nat.succ_pos _); have hrow := h.rowAt hgrow; have hb2 := below_push0 (Below.refl B w) (by omega) hgrow (fun k hk => by have := (h.own.lt k hk).1; omega); clear hgrow hat c1; (have e0 : w2.cell? ⟨D, 0, none⟩ = some (phF D d.ph) := by rw [cell_of_row _ _ 0 _ _ (0, 0) hrow]; rfl); (have e1 : w2.cell? ⟨D, 1, none⟩ = some v := by rw [cell_of_row _ _ 1 _ _ (0, 0) hrow]; rfl); (have e4 : w2.cell? ⟨D, 4, none⟩ = some (.int .i64 ((m : Int) + 1)) := by rw [cell_of_row _ _ 4 _ _ (0, 0) hrow, hm]; rfl); have f0 := Go.Joins.unfrozen_of_block hrow 0; have f1 := Go.Joins.unfrozen_of_block hrow 1; have f4 := Go.Joins.unfrozen_of_block hrow 4)
    have hd := HK.out w2 g cap hg1 hown2 hrow
    have hbw := (hb2.setCell (p := ⟨D, 1, none⟩) hB (.slice (some ⟨g, 0, none⟩) (d.body.length + 1) cap)).setCell (p := ⟨D, 4, none⟩) hB (.int .i64 (m : Int))
    go_ret
    first
      | (subst h1; exact ⟨rfl, fun _ => ⟨_, hd.set 0 _ { d with body := d.body ++ [c], size := 0, ph := 3 } rfl rfl⟩, hbw.setCell (p := ⟨D, 0, none⟩) hB _⟩)
      | exact ⟨rfl, fun _ => ⟨_, hd⟩, hbw⟩)
end Go.Proofs.Ytggbgpmjfncklaa
