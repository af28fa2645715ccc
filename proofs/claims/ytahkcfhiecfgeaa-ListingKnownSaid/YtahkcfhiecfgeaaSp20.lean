/- Listing: the same page? -/
import Derived.Test.YtahkcfhiecfgeaaProg
import Derived.Test.YtahkcfhiecfgeaaSq20
import Derived.Deep.QuietTactic
import Derived.BigQuiet
import Derived.Laws.StructEq
namespace Go.Proofs.Ytahkcfhiecfgeaa
open Go.RowKit
set_option linter.unusedVariables false
set_option linter.unusedSimpArgs false
deriving instance DecidableEq for Pg
/-- A page that can be read. -/
def PgSrc (W : World) (pv : Value) (g : Pg) : Prop := ∃ sl, pv = .agg #[sl, .bool g.more, .string (BA g.next), .string (BA g.version)] ∧ SrcR W sl 8 (g.items.map itmC)
theorem PageAt.src {n : Nat} {W : World} {pv : Value} {g : Pg} (h : PageAt n W pv g) : PgSrc W pv g := by
  obtain ⟨sl, h1, h2⟩ := h
  exact ⟨sl, h1, own_src h2⟩
theorem PgSrc.block {W W' : World} {pv : Value} {g : Pg} (h : PgSrc W pv g) (hb : Below W.heap.size W W') : PgSrc W' pv g := by
  obtain ⟨sl, h1, h2⟩ := h
  exact ⟨sl, h1, h2.block hb⟩
set_option maxRecDepth 10000 in
set_option maxHeartbeats 2000000 in
theorem samePage_any (a b : Value) (g h : Pg) (w : World) (ha : PgSrc w a g) (hb : PgSrc w b h) (hg : g.items.length ≤ 1000000) (hh : h.items.length ≤ 1000000) :
    Calls Try.prog 15 #[a, b] w fun e w' => e = .returned (.bool (decide (g = h))) ∧ Below w.heap.size w w' := by
  obtain ⟨gi, gm, gn, gv⟩ := g
  obtain ⟨hi, hm, hn, hv⟩ := h
  obtain ⟨sa, rfl, hsa⟩ := ha
  obtain ⟨sb, rfl, hsb⟩ := hb
  obtain ⟨A1, c1, rfl⟩ := hsa.form
  obtain ⟨A2, c2, rfl⟩ := hsb.form
  simp only [List.length_map] at hsa hsb ⊢
  have HA := Lib.hid hsa
  have HB := Lib.hid hsb
  clear hsa hsb
  simp only at hg hh
  have hb2 : Below w.heap.size w ((w.alloc (.cells #[.slice A1 gi.length c1, .bool gm, .string (BA gn), .string (BA gv)] 28)).alloc (.cells #[.slice A2 hi.length c2, .bool hm, .string (BA hn), .string (BA hv)] 28)) := ((Below.refl _ w).alloc (Nat.le_refl _) _).alloc (by simp) _
  go_enter Try.func15, Try.ntmps15
  obtain ⟨n1, hn1⟩ : ∃ n1, gi.length = n1 := ⟨_, rfl⟩
  obtain ⟨n2, hn2⟩ : ∃ n2, hi.length = n2 := ⟨_, rfl⟩
  rw [hn1] at HA hb2 hg ⊢
  rw [hn2] at HB hb2 hh ⊢
  have HN1 := Lib.hid hn1
  have HN2 := Lib.hid hn2
  clear hn1 hn2
  by_cases hl : n1 = n2
  · subst hl
    by_cases e1 : gm = hm
    · subst e1
      by_cases e2 : gn = hn
      · subst e2
        by_cases e3 : gv = hv
        · have HP := Lib.hid (show decide ((⟨gi, gm, gn, gv⟩ : Pg) = ⟨hi, gm, gn, hv⟩) = decide (gi = hi) by simp [e3])
          have hq : (gv == hv) = true := by simp [e3]
          subst e3
          rw [HP.out]
          obtain ⟨R, hR⟩ : ∃ R, decide (gi = hi) = R := ⟨_, rfl⟩
          rw [hR]
          have HR0 := Lib.hid hR
          clear hR HP
          have r1 := (heap_alloc_old (w.alloc (.cells #[.slice A1 n1 c1, .bool gm, .string (BA gn), .string (BA gv)] 28)) (.cells #[.slice A2 n1 c2, .bool gm, .string (BA gn), .string (BA gv)] 28) w.heap.size (by simp)).trans (heap_alloc_new w _)
          have r2 := heap_alloc_new (w.alloc (.cells #[.slice A1 n1 c1, .bool gm, .string (BA gn), .string (BA gv)] 28)) (.cells #[.slice A2 n1 c2, .bool gm, .string (BA gn), .string (BA gv)] 28)
          rw [World.size_alloc] at r2
          go_wp2_with fail
          obtain ⟨w2, hw2⟩ : ∃ w2, (w.alloc (.cells #[.slice A1 n1 c1, .bool gm, .string (BA gn), .string (BA gv)] 28)).alloc (.cells #[.slice A2 n1 c2, .bool gm, .string (BA gn), .string (BA gv)] 28) = w2 := ⟨_, rfl⟩
          rw [hw2] at r1 r2 hb2 ⊢
          clear hw2
          go_loopw [5] (fun i wr => ∃ k : Nat, k ≤ n1 ∧ i = .int .i64 k ∧ Below w2.heap.size w2 wr ∧ Hid (R = decide (gi.drop k = hi.drop k))) (fun i _ => n1 - (intOf i).toNat)
          case atStart => exact ⟨0, Nat.zero_le _, rfl, Below.refl _ _, Lib.hid (by rw [← HR0.out]; simp)⟩
          case round =>
            obtain ⟨k, hk, rfl, hbw, H⟩ := hrel
            have hbx := hb2.trans (hbw.mono hb2.size)
            have c1r : wr.cell? ⟨w.heap.size, 0, none⟩ = some (.slice A1 n1 c1) := by rw [cell_of_row _ _ 0 _ _ (0, 0) ((hbw.block _ (Array.getElem?_eq_some_iff.1 r1).1).trans r1)]; rfl
            have c2r : wr.cell? ⟨w.heap.size + 1, 0, none⟩ = some (.slice A2 n1 c2) := by rw [cell_of_row _ _ 0 _ _ (0, 0) ((hbw.block _ (Array.getElem?_eq_some_iff.1 r2).1).trans r2)]; rfl
            by_cases hlt : k < n1
            · obtain ⟨⟨nm, com, ⟨vid, vt, vm, vz, vet⟩, lat⟩, hx, hxd⟩ := next_elem gi k (by rw [HN1.out]; exact hlt)
              obtain ⟨⟨nm', com', ⟨vid', vt', vm', vz', vet'⟩, lat'⟩, hy, hyd⟩ := next_elem hi k (by rw [HN2.out]; exact hlt)
              obtain ⟨b1, o1, rfl, _, hc1⟩ := (HA.out.block hbx).at (i := k) (row := itmC ⟨nm, com, ⟨vid, vt, vm, vz, vet⟩, lat⟩) (by simp [hx])
              obtain ⟨b2, o2, rfl, _, hc2⟩ := (HB.out.block hbx).at (i := k) (row := itmC ⟨nm', com', ⟨vid', vt', vm', vz', vet'⟩, lat'⟩) (by simp [hy])
              have d0 := hc1 0 _ rfl
              have d1 := hc1 1 _ rfl
              have d2 := hc1 2 _ rfl
              have d3 := hc1 3 _ rfl
              have d4 := hc1 4 _ rfl
              have d5 := hc1 5 _ rfl
              have d6 := hc1 6 _ rfl
              have d7 := hc1 7 _ rfl
              have f0 := hc2 0 _ rfl
              have f1 := hc2 1 _ rfl
              have f2 := hc2 2 _ rfl
              have f3 := hc2 3 _ rfl
              have f4 := hc2 4 _ rfl
              have f5 := hc2 5 _ rfl
              have f6 := hc2 6 _ rfl
              have f7 := hc2 7 _ rfl
              simp only [Nat.add_zero] at d0 f0
              have hstep := H.out
              rw [hxd, hyd] at hstep
              have hk2 : (0 : Int) ≤ (k : Int) ∧ (k : Int) < (n1 : Int) := by omega
              clear hc1 hc2 hx hy hxd hyd H
              have hne := fun w => run_neq39 ⟨nm, com, ⟨vid, vt, vm, vz, vet⟩, lat⟩ ⟨nm', com', ⟨vid', vt', vm', vz', vet'⟩, lat'⟩ w
              simp only [itmC] at hne
              have hg39 := guard39
              by_cases hxy : (⟨nm, com, ⟨vid, vt, vm, vz, vet⟩, lat⟩ : Itm) = ⟨nm', com', ⟨vid', vt', vm', vz', vet'⟩, lat'⟩
              · have HS := Lib.hid (show R = decide (gi.drop (k + 1) = hi.drop (k + 1)) by rw [hstep]; simp [hxy])
                rw [decide_eq_true hxy] at hne
                clear hstep hxy
                go_wp2_with fail
                go_quiet (fail)
                clear d0 d1 d2 d3 d4 d5 d6 d7 f0 f1 f2 f3 f4 f5 f6 f7 hne c1r c2r hg39
                go_wp2
                go_roundw
                case rel => exact ⟨k + 1, by omega, by go_num, below_drewN hbw _, HS⟩
                case measure => simp [intOf]; omega
              · have HS := Lib.hid (show R = false by rw [hstep]; simp only [List.cons.injEq, hxy, false_and, decide_false])
                rw [decide_eq_false hxy] at hne
                clear hstep hxy
                go_wp2_with fail
                go_quiet (fail)
                clear d0 d1 d2 d3 d4 d5 d6 d7 f0 f1 f2 f3 f4 f5 f6 f7 hne c1r c2r hg39
                go_wp2
                go_ret
                exact ⟨by rw [HS.out]; rfl, below_drewN hbx _⟩
            · obtain rfl : k = n1 := by omega
              have HV := Lib.hid (show R = true by rw [H.out, List.drop_of_length_le (by rw [HN1.out]; exact Nat.le_refl _), List.drop_of_length_le (by rw [HN2.out]; exact Nat.le_refl _)]; simp)
              clear H
              go_wp2
              go_ret
              exact ⟨by rw [HV.out]; rfl, hbx⟩
        · have hq : (gv == hv) = false := by simp [e3]
          have HR := Lib.hid (show decide ((⟨gi, gm, gn, gv⟩ : Pg) = ⟨hi, gm, gn, hv⟩) = false by simp [e3])
          go_wp2_with fail
          go_ret
          exact ⟨by rw [HR.out]; rfl, hb2⟩
      · have HR := Lib.hid (show decide ((⟨gi, gm, gn, gv⟩ : Pg) = ⟨hi, gm, hn, hv⟩) = false by simp [e2])
        go_wp2_with fail
        go_ret
        exact ⟨by rw [HR.out]; rfl, hb2⟩
    · have HR := Lib.hid (show decide ((⟨gi, gm, gn, gv⟩ : Pg) = ⟨hi, hm, hn, hv⟩) = false by simp [e1])
      go_wp2_with fail
      go_ret
      exact ⟨by rw [HR.out]; rfl, hb2⟩
  · have hl2 : ((n1 : Int) == (n2 : Int)) = false := by simp; omega
    have hl3 : ¬ (n1 : Int) = (n2 : Int) := by omega
    have HR := Lib.hid (show decide ((⟨gi, gm, gn, gv⟩ : Pg) = ⟨hi, hm, hn, hv⟩) = false by simp; intro e; exact absurd (by rw [← HN1.out, ← HN2.out, e]) hl)
    go_wp2_with fail
    go_ret
    exact ⟨by rw [HR.out]; rfl, hb2⟩
end Go.Proofs.Ytahkcfhiecfgeaa
