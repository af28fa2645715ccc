/- package chunk: the decoder's steps. -/
import Derived.Test.YtggbgpmjfncklaaProg
import Derived.Test.YtggbgpmjfncklaaKit
import Derived.Test.YtggbgpmjfncklaaShelf
import Derived.Deep.RegionWith
import Derived.Lib.SmallJoins
namespace Go.Proofs.Ytggbgpmjfncklaa
open Go.RowKit
set_option linter.unusedVariables false
set_option linter.unusedSimpArgs false
theorem idx_any (c : UInt8) (w : World) : Calls Try.prog 34 #[.string (⟨#[48, 49, 50, 51, 52, 53, 54, 55, 56, 57, 97, 98, 99, 100, 101, 102]⟩ : ByteArray), .int .u8 c.toNat] w fun e w' => e = .returned (.int .i64 (hexN c.toNat)) ∧ w' = w := by
  have h := Try.strings_IndexByte (⟨#[48, 49, 50, 51, 52, 53, 54, 55, 56, 57, 97, 98, 99, 100, 101, 102]⟩ : ByteArray) c.toNat w
  rw [show ((c.toNat : Int)).toNat.toUInt8 = c by simp] at h
  rw [show ((⟨#[48, 49, 50, 51, 52, 53, 54, 55, 56, 57, 97, 98, 99, 100, 101, 102]⟩ : ByteArray)).data.toList = ([48, 49, 50, 51, 52, 53, 54, 55, 56, 57, 97, 98, 99, 100, 101, 102] : List UInt8) from rfl, hexN_index] at h
  exact h
theorem idx25_any (c : Int) (w : World) (u : UInt8) (h : (u.toNat : Int) = c) : Calls Try.prog 34 #[.string (⟨#[48, 49, 50, 51, 52, 53, 54, 55, 56, 57, 97, 98, 99, 100, 101, 102]⟩ : ByteArray), .int .u8 c] w fun e w' => e = .returned (.int .i64 (hexN u.toNat)) ∧ w' = w := by
  subst h
  exact idx_any u w
def showsB (c : UInt8) : Bool := (decide (32 ≤ c.toNat) && decide (c.toNat ≤ 126)) || decide (c.toNat = 9)
theorem shows_any (c : UInt8) (w : World) : Calls Try.prog 27 #[.int .u8 (c.toNat : Int)] w fun e w' => e = .returned (.bool (showsB c)) ∧ w' = w := by
  go_enter Try.func27, Try.ntmps27
  go_wp2
  all_goals (go_ret; refine ⟨ret_bool ?_, rfl⟩; rw [Bool.eq_iff_iff]; simp [showsB]; try omega)
def digN (c : UInt8) : Int := if 65 ≤ c.toNat ∧ c.toNat ≤ 70 then (c.toNat : Int) - 55 else hexN c.toNat
theorem digN_hi (c : UInt8) : digN c ≤ 15 := by
  unfold digN
  have := hexN_hi c.toNat
  split <;> omega
theorem digN_lo (c : UInt8) : -1 ≤ digN c := by
  unfold digN
  have := hexN_lo c.toNat
  split <;> omega
theorem digit25_any (c : UInt8) (w : World) : Calls Try.prog 28 #[.int .u8 (c.toNat : Int)] w fun e w' => e = .returned (.int .i64 (digN c)) ∧ w' = w := by
  by_cases h : 65 ≤ c.toNat ∧ c.toNat ≤ 70
  · obtain ⟨h1, h2⟩ := h
    have hu : ((c.toNat + 32).toUInt8.toNat : Int) = (c.toNat : Int) + 32 := by simp; omega
    have hd : hexN (c.toNat + 32).toUInt8.toNat = digN c := by
      have e : (c.toNat + 32).toUInt8.toNat = c.toNat + 32 := by simp; omega
      rw [e]
      unfold digN hexN
      repeat' split
      all_goals omega
    go_enter Try.func28, Try.ntmps28
    go_wp2_with fail
    all_goals try (exfalso; omega)
    refine (idx25_any _ _ (c.toNat + 32).toUInt8 (by rw [hu]; try omega)).mono ?_
    rintro e w' ⟨rfl, rfl⟩
    rw [hd]
    go_wp2
    go_ret
    exact ⟨rfl, rfl⟩
  · have hd : hexN c.toNat = digN c := by unfold digN; rw [if_neg h]
    have HD := Lib.hid hd
    clear hd
    go_enter Try.func28, Try.ntmps28
    go_wp2_with fail
    all_goals try (exfalso; omega)
    all_goals (
      refine (idx25_any _ _ c rfl).mono ?_
      rintro e w' ⟨rfl, rfl⟩
      rw [HD.out]
      go_wp2
      go_ret
      exact ⟨rfl, rfl⟩)
structure Dec where
  ph : Nat
  body : List UInt8
  line : Nat
  digits : Nat
  size : Nat
  behind : Bool
  trailers : Nat
  done : Bool
def phF (D : Nat) : Nat → Value
  | 0 => .func (.func 21) #[.pointer (some ⟨D, 0, none⟩)] #[]
  | 1 => .func (.func 26) #[.pointer (some ⟨D, 0, none⟩)] #[]
  | 2 => .func (.func 32) #[.pointer (some ⟨D, 0, none⟩)] #[]
  | 3 => .func (.func 35) #[.pointer (some ⟨D, 0, none⟩)] #[]
  | 4 => .func (.func 38) #[.pointer (some ⟨D, 0, none⟩)] #[]
  | 5 => .func (.func 33) #[.pointer (some ⟨D, 0, none⟩)] #[]
  | _ => .func (.func 36) #[.pointer (some ⟨D, 0, none⟩)] #[]
def cells8 (f v : Value) (line digits size : Int) (behind : Bool) (trailers : Int) (done : Bool) : Array Value := #[f, v, .int .i64 line, .int .i64 digits, .int .i64 size, .bool behind, .int .i64 trailers, .bool done]
/-- The decoder lies at D. -/
structure DecAt (D : Nat) (d : Dec) (v : Value) (w : World) : Prop where
  cells : w.heap[D]? = some (.cells (cells8 (phF D d.ph) v d.line d.digits d.size d.behind d.trailers d.done) 42 (0, 0))
  own : w.ownsRow (D + 1) 5 1 v d.body.length (Lib.byteCells d.body)
section
variable {D : Nat} {d : Dec} {v : Value} {w : World}
theorem DecAt.lt (h : DecAt D d v w) : D < w.heap.size := (Array.getElem?_eq_some_iff.1 h.cells).1
theorem DecAt.c0 (h : DecAt D d v w) : w.cell? ⟨D, 0, none⟩ = some (phF D d.ph) := by rw [cell_of_row _ _ 0 _ _ (0, 0) h.cells]; rfl
theorem DecAt.c1 (h : DecAt D d v w) : w.cell? ⟨D, 1, none⟩ = some v := by rw [cell_of_row _ _ 1 _ _ (0, 0) h.cells]; rfl
theorem DecAt.c2 (h : DecAt D d v w) : w.cell? ⟨D, 2, none⟩ = some (.int .i64 (d.line : Int)) := by rw [cell_of_row _ _ 2 _ _ (0, 0) h.cells]; rfl
theorem DecAt.c3 (h : DecAt D d v w) : w.cell? ⟨D, 3, none⟩ = some (.int .i64 (d.digits : Int)) := by rw [cell_of_row _ _ 3 _ _ (0, 0) h.cells]; rfl
theorem DecAt.c4 (h : DecAt D d v w) : w.cell? ⟨D, 4, none⟩ = some (.int .i64 (d.size : Int)) := by rw [cell_of_row _ _ 4 _ _ (0, 0) h.cells]; rfl
theorem DecAt.c5 (h : DecAt D d v w) : w.cell? ⟨D, 5, none⟩ = some (.bool d.behind) := by rw [cell_of_row _ _ 5 _ _ (0, 0) h.cells]; rfl
theorem DecAt.c6 (h : DecAt D d v w) : w.cell? ⟨D, 6, none⟩ = some (.int .i64 (d.trailers : Int)) := by rw [cell_of_row _ _ 6 _ _ (0, 0) h.cells]; rfl
theorem DecAt.c7 (h : DecAt D d v w) : w.cell? ⟨D, 7, none⟩ = some (.bool d.done) := by rw [cell_of_row _ _ 7 _ _ (0, 0) h.cells]; rfl
theorem DecAt.fz (h : DecAt D d v w) (i : Nat) : w.frozen? ⟨D, i, none⟩ = false := Go.Joins.unfrozen_of_block h.cells i
theorem DecAt.drew (h : DecAt D d v w) : DecAt D d v w.drew := ⟨h.cells, h.own⟩
theorem DecAt.set (h : DecAt D d v w) (i : Nat) (x : Value) (d' : Dec) (hb : d'.body = d.body) (hc : (cells8 (phF D d.ph) v d.line d.digits d.size d.behind d.trailers d.done).setIfInBounds i x = cells8 (phF D d'.ph) v d'.line d'.digits d'.size d'.behind d'.trailers d'.done) : DecAt D d' v (w.setCell ⟨D, i, none⟩ x) := by
  refine ⟨by rw [← hc]; exact Go.Joins.block_setCell h.cells x, ?_⟩
  rw [hb]
  exact ownsRow_set h.own (a := ⟨D, i, none⟩) (by
    intro e
    have := (h.own.lt D e).1
    omega) x
end
def longD (d : Dec) : Int × Dec := if 64 < d.line + 1 then (3, d) else (0, { d with line := d.line + 1 })
/-- A method's answer: the error, and (where there is none) the decoder behind it. -/
def StepQ (B D : Nat) (w : World) (r : Int × Dec) (e : Ending) (w' : World) : Prop :=
  e = .returned (.int .i64 r.1) ∧ (r.1 = 0 → ∃ v, DecAt D r.2 v w') ∧ Below B w w'
theorem long_any (B D : Nat) (d : Dec) (v : Value) (w : World) (h : DecAt D d v w) (hB : B ≤ D) (hl : d.line ≤ 1000) :
    Calls Try.prog 29 #[.pointer (some ⟨D, 0, none⟩)] w (StepQ B D w (longD d)) := by
  have c2 := h.c2
  have f2 := h.fz 2
  by_cases hb : 64 < d.line + 1
  · have hr : longD d = (3, d) := if_pos hb
    have hb' : (64 : Int) < (d.line : Int) + 1 := by omega
    rw [hr]
    go_enter Try.func29, Try.ntmps29
    go_wp2
    go_ret
    exact ⟨rfl, fun h => (by cases h), (Below.refl B w).setCell (p := ⟨D, 2, none⟩) hB _⟩
  · have hr : longD d = (0, { d with line := d.line + 1 }) := if_neg hb
    have hb' : ¬ (64 : Int) < (d.line : Int) + 1 := by omega
    rw [hr]
    have hd := h.set 2 (.int .i64 ((d.line : Int) + 1)) { d with line := d.line + 1 } rfl rfl
    go_enter Try.func29, Try.ntmps29
    go_wp2
    go_ret
    exact ⟨rfl, fun _ => ⟨v, hd⟩, (Below.refl B w).setCell (p := ⟨D, 2, none⟩) hB _⟩
theorem store_fn {P : Program} (D : Nat) (x : Value) (hx : x.oneCell' = true) : ∀ W : World, (W.cell? ⟨D, 0, none⟩).isSome = true → W.frozen? ⟨D, 0, none⟩ = false → (store ⟨D, 0, none⟩ x).run P W = .ok () (W.setCell ⟨D, 0, none⟩ x) := fun W hc hf => by
  obtain ⟨u, hu⟩ := Option.isSome_iff_exists.1 hc
  rw [run_store P W _ x _ hx]
  simp [hu, hf]
def headD (d : Dec) (c : UInt8) : Int × Dec :=
  if c.toNat = 13 ∧ 0 < d.digits then (0, { d with ph := 1 })
  else if d.behind = true then (if showsB c = true then longD d else (4, d))
  else if c.toNat = 59 ∧ 0 < d.digits then longD { d with behind := true }
  else if 0 ≤ digN c then (if 6 < d.digits + 1 then (3, d) else longD { d with digits := d.digits + 1, size := 16 * d.size + (digN c).toNat })
  else (4, d)
theorem or_size (s : Nat) (x : Int) (hs : s < 4294967296) (h0 : 0 ≤ x) (h1 : x ≤ 15) : bits .or .i64 ((s : Int) * 16) x = ((16 * s + x.toNat : Nat) : Int) := by
  obtain ⟨n, rfl⟩ : ∃ n : Nat, x = n := ⟨x.toNat, by omega⟩
  have hp : (2 : Int) ^ 40 = 1099511627776 := by decide
  have hq : 2 ^ 40 = 1099511627776 := by decide
  have hb := (bits_nat .i64 40 (by decide) (fun n h0 h1 => by rw [hp] at h1; exact IntWalk.i64_in _ (by omega)) (s * 16) n (by rw [hq]; omega) (by rw [hq]; omega)).2
  have e : (s * 16 ||| n) = 16 * s + n := by
    have := Nat.two_pow_add_eq_or_of_lt (b := n) (i := 4) (by omega) s
    rw [show (2 : Nat) ^ 4 = 16 by decide] at this
    rw [Nat.mul_comm s 16, ← this]
  rw [e] at hb
  rw [show ((s : Int) * 16) = ((s * 16 : Nat) : Int) by omega, hb]
  simp
theorem StepQ.via {B D : Nat} {w w1 w2 : World} {r : Int × Dec} {e : Ending} (hb : Below B w w1) (h : StepQ B D w1 r e w2) : StepQ B D w r e w2 := ⟨h.1, h.2.1, hb.trans h.2.2⟩
theorem StepQ.bad {B D : Nat} {w w1 : World} {n : Int} {d : Dec} (hb : Below B w w1) (hn : n ≠ 0) : StepQ B D w (n, d) (.returned (.int .i64 n)) w1 := ⟨rfl, fun h => absurd h hn, hb⟩
set_option maxHeartbeats 1000000 in
theorem head_any (B D : Nat) (d : Dec) (v : Value) (c : UInt8) (w : World) (h : DecAt D d v w) (hB : B ≤ D) (hl : d.line ≤ 100) (hdg : d.digits ≤ 100) (hsz : d.size < 4294967296) :
    Calls Try.prog 21 #[.pointer (some ⟨D, 0, none⟩), .int .u8 (c.toNat : Int)] w (StepQ B D w (headD d c)) := by
  have c0 := h.c0
  have f0 := h.fz 0
  have c3 := h.c3
  have f3 := h.fz 3
  have c4 := h.c4
  have f4 := h.fz 4
  have c5 := h.c5
  have f5 := h.fz 5
  by_cases h13 : c = 13
  · subst h13
    by_cases hd0 : 0 < d.digits
    · have hr : headD d 13 = (0, { d with ph := 1 }) := if_pos ⟨rfl, hd0⟩
      have k2 : (0 : Int) < (d.digits : Int) := by omega
      have hd := h.set 0 (phF D 1) { d with ph := 1 } rfl rfl
      rw [hr]
      clear hr
      have hst := store_fn (P := Try.prog) D (.func (.func 26) #[.pointer (some ⟨D, 0, none⟩)] #[]) rfl
      go_enter Try.func21, Try.ntmps21
      go_wp2
      go_ret
      exact ⟨rfl, fun _ => ⟨v, hd⟩, (Below.refl B w).setCell (p := ⟨D, 0, none⟩) hB _⟩
    · have k2 : ¬ (0 : Int) < (d.digits : Int) := by omega
      have hdg13 : digN 13 = -1 := by decide
      by_cases hbe : d.behind = true
      · have hr : headD d 13 = (4, d) := by unfold headD; rw [if_neg (by omega), if_pos hbe, if_neg (by decide)]
        rw [hr]
        rw [hbe] at c5
        clear hr
        have hsh := shows_any 13
        rw [show showsB 13 = false by decide] at hsh
        go_enter Try.func21, Try.ntmps21
        go_wp2_with fail
        refine (hsh _).mono ?_
        rintro e w' ⟨rfl, rfl⟩
        go_wp2
        go_ret
        exact StepQ.bad (Below.refl _ _) (by decide)
      · have hbf : d.behind = false := by simpa using hbe
        have hr : headD d 13 = (4, d) := by unfold headD; rw [if_neg (by omega), if_neg hbe, if_neg (by omega), if_neg (by rw [hdg13]; decide)]
        rw [hr]
        rw [hbf] at c5
        have hdi := digit25_any 13
        rw [hdg13] at hdi
        clear hr
        go_enter Try.func21, Try.ntmps21
        go_wp2_with fail
        refine (hdi _).mono ?_
        rintro e w' ⟨rfl, rfl⟩
        go_wp2
        go_ret
        exact StepQ.bad (Below.refl _ _) (by decide)
  · have k13n : ¬ c.toNat = 13 := fun e => h13 (UInt8.toNat_inj.1 e)
    have k13 : ¬ (c.toNat : Int) = 13 := by omega
    clear h13
    by_cases hbe : d.behind = true
    · rw [hbe] at c5
      by_cases hs : showsB c = true
      · have hr : headD d c = longD d := by unfold headD; rw [if_neg (by omega), if_pos hbe, if_pos hs]
        rw [hr]
        clear hr
        have hsh := shows_any c
        rw [hs] at hsh
        go_enter Try.func21, Try.ntmps21
        go_wp2_with fail
        refine (hsh _).mono ?_
        rintro e w' ⟨rfl, rfl⟩
        go_wp2_with fail
        refine (long_any B D d v _ h hB (by omega)).mono ?_
        rintro e w2 hq
        obtain ⟨rfl, h2, h3⟩ := hq
        go_wp2
        go_ret
        exact ⟨rfl, h2, h3⟩
      · have hsf : showsB c = false := by simpa using hs
        have hr : headD d c = (4, d) := by unfold headD; rw [if_neg (by omega), if_pos hbe, if_neg hs]
        rw [hr]
        clear hr
        have hsh := shows_any c
        rw [hsf] at hsh
        go_enter Try.func21, Try.ntmps21
        go_wp2_with fail
        refine (hsh _).mono ?_
        rintro e w' ⟨rfl, rfl⟩
        go_wp2
        go_ret
        exact StepQ.bad (Below.refl _ _) (by decide)
    · have hbf : d.behind = false := by simpa using hbe
      rw [hbf] at c5
      by_cases h59 : c = 59
      · subst h59
        by_cases hd0 : 0 < d.digits
        · have k2 : (0 : Int) < (d.digits : Int) := by omega
          have hr : headD d 59 = longD { d with behind := true } := by unfold headD; rw [if_neg (by omega), if_neg hbe, if_pos ⟨rfl, hd0⟩]
          rw [hr]
          clear hr
          try clear hbe
          try clear hbf
          have hd := h.set 5 (.bool true) { d with behind := true } rfl rfl
          have hbw := (Below.refl B w).setCell (p := ⟨D, 5, none⟩) hB (.bool true)
          go_enter Try.func21, Try.ntmps21
          go_wp2_with fail
          refine (long_any B D _ v _ hd hB (by simp only; omega)).mono ?_
          rintro e w2 hq
          obtain ⟨rfl, h2, h3⟩ := hq
          go_wp2
          go_ret
          exact ⟨rfl, h2, hbw.trans h3⟩
        · have k2 : ¬ (0 : Int) < (d.digits : Int) := by omega
          have hdg59 : digN 59 = -1 := by decide
          have hr : headD d 59 = (4, d) := by unfold headD; rw [if_neg (by omega), if_neg hbe, if_neg (by omega), if_neg (by rw [hdg59]; decide)]
          rw [hr]
          have hdi := digit25_any 59
          rw [hdg59] at hdi
          clear hr
          try clear hbe
          try clear hbf
          go_enter Try.func21, Try.ntmps21
          go_wp2_with fail
          refine (hdi _).mono ?_
          rintro e w' ⟨rfl, rfl⟩
          go_wp2
          go_ret
          exact StepQ.bad (Below.refl _ _) (by decide)
      · have k59n : ¬ c.toNat = 59 := fun e => h59 (UInt8.toNat_inj.1 e)
        have k59 : ¬ (c.toNat : Int) = 59 := by omega
        clear h59
        have hdi := digit25_any c
        have hhi := digN_hi c
        have hlo := digN_lo c
        by_cases hdn : 0 ≤ digN c
        · by_cases h6 : 6 < d.digits + 1
          · have hr : headD d c = (3, d) := by unfold headD; rw [if_neg (by omega), if_neg hbe, if_neg (by omega), if_pos hdn, if_pos h6]
            rw [hr]
            clear hr
            try clear hbe
            try clear hbf
            have k6 : (6 : Int) < (d.digits : Int) + 1 := by omega
            go_enter Try.func21, Try.ntmps21
            go_wp2_with fail
            refine (hdi _).mono ?_
            rintro e w' ⟨rfl, rfl⟩
            go_wp2
            go_ret
            exact StepQ.bad ((Below.refl B w').setCell (p := ⟨D, 3, none⟩) hB _) (by decide)
          · have hr : headD d c = longD { d with digits := d.digits + 1, size := 16 * d.size + (digN c).toNat } := by unfold headD; rw [if_neg (by omega), if_neg hbe, if_neg (by omega), if_pos hdn, if_neg h6]
            rw [hr]
            clear hr
            try clear hbe
            try clear hbf
            have k6 : ¬ (6 : Int) < (d.digits : Int) + 1 := by omega
            have hd := h.set 3 (.int .i64 ((d.digits : Int) + 1)) { d with digits := d.digits + 1 } rfl rfl
            have hor := or_size d.size (digN c) hsz hdn hhi
            obtain ⟨s2, hs2⟩ : ∃ s2, 16 * d.size + (digN c).toNat = s2 := ⟨_, rfl⟩
            rw [hs2] at hor ⊢
            have hd2 := hd.set 4 (.int .i64 (s2 : Int)) { d with digits := d.digits + 1, size := s2 } rfl rfl
            have hbw := ((Below.refl B w).setCell (p := ⟨D, 3, none⟩) hB (.int .i64 ((d.digits : Int) + 1))).setCell (p := ⟨D, 4, none⟩) hB (.int .i64 (s2 : Int))
            clear hs2
            go_enter Try.func21, Try.ntmps21
            go_wp2_with fail
            refine (hdi _).mono ?_
            rintro e w' ⟨rfl, rfl⟩
            go_wp2_with fail
            go_region_with (first | (go_at_call 28; refine (hdi _).mono ?_; rintro e w2 ⟨rfl, rfl⟩))
            all_goals (
              go_wp2_with fail
              rw [hor]
              refine (long_any B D _ v _ hd2.drew hB (by simp only; omega)).mono ?_
              rintro e w2 hq
              obtain ⟨rfl, h2, h3⟩ := hq
              go_wp2
              go_ret
              exact ⟨rfl, h2, hbw.trans ⟨h3.os, h3.tape, h3.output, h3.size, h3.block⟩⟩)
        · have hr : headD d c = (4, d) := by unfold headD; rw [if_neg (by omega), if_neg hbe, if_neg (by omega), if_neg hdn]
          rw [hr]
          clear hr
          try clear hbe
          try clear hbf
          go_enter Try.func21, Try.ntmps21
          go_wp2_with fail
          refine (hdi _).mono ?_
          rintro e w' ⟨rfl, rfl⟩
          go_wp2
          go_ret
          exact StepQ.bad (Below.refl _ _) (by decide)
def headedD (d : Dec) (c : UInt8) : Int × Dec := if c = 10 then (if 65536 < d.body.length + d.size then (3, d) else (0, { d with line := 0, ph := if d.size = 0 then 5 else 2 })) else (4, d)
def dataD (d : Dec) (c : UInt8) : Int × Dec := (0, { d with body := d.body ++ [c], size := d.size - 1, ph := if d.size = 1 then 3 else d.ph })
def shutD (d : Dec) (c : UInt8) : Int × Dec := if c = 13 then (0, { d with ph := 4 }) else (4, d)
def endedD (d : Dec) (c : UInt8) : Int × Dec := if c = 10 then (0, { d with line := 0, digits := 0, behind := false, ph := 0 }) else (4, d)
def trailerD (d : Dec) (c : UInt8) : Int × Dec := if c = 13 then (0, { d with ph := 6 }) else if showsB c = true then (if d.line = 0 then (if 16 < d.trailers + 1 then (3, d) else longD { d with trailers := d.trailers + 1 }) else longD d) else (4, d)
def trailedD (d : Dec) (c : UInt8) : Int × Dec := if c = 10 then (0, { d with done := ((d.line : Int) == 0), line := 0, ph := 5 }) else (4, d)
theorem ne_nat {c : UInt8} {n : Nat} (hn : n < 256) (h : c ≠ n.toUInt8) : ¬ (c.toNat : Int) = (n : Int) := fun e => h (UInt8.toNat_inj.1 (by simp; omega))
set_option maxHeartbeats 1000000 in
theorem shut_any (B D : Nat) (d : Dec) (v : Value) (c : UInt8) (w : World) (h : DecAt D d v w) (hB : B ≤ D) :
    Calls Try.prog 35 #[.pointer (some ⟨D, 0, none⟩), .int .u8 (c.toNat : Int)] w (StepQ B D w (shutD d c)) := by
  have c0 := h.c0
  have f0 := h.fz 0
  have hst := store_fn (P := Try.prog) D (.func (.func 38) #[.pointer (some ⟨D, 0, none⟩)] #[]) rfl
  have hbw := (Below.refl B w).setCell (p := ⟨D, 0, none⟩) hB (.func (.func 38) #[.pointer (some ⟨D, 0, none⟩)] #[])
  by_cases hc : c = 13
  · have hr : shutD d c = (0, { d with ph := 4 }) := if_pos hc
    have hd := h.set 0 (phF D 4) { d with ph := 4 } rfl rfl
    rw [hr]
    subst hc
    clear hr
    go_enter Try.func35, Try.ntmps35
    go_wp2
    go_ret
    exact ⟨rfl, fun _ => ⟨v, hd⟩, hbw⟩
  · have hr : shutD d c = (4, d) := if_neg hc
    have k := ne_nat (n := 13) (by decide) hc
    rw [hr]
    clear hr
    go_enter Try.func35, Try.ntmps35
    go_wp2
    go_ret
    exact StepQ.bad hbw (by decide)
set_option maxHeartbeats 1000000 in
theorem ended_any (B D : Nat) (d : Dec) (v : Value) (c : UInt8) (w : World) (h : DecAt D d v w) (hB : B ≤ D) :
    Calls Try.prog 38 #[.pointer (some ⟨D, 0, none⟩), .int .u8 (c.toNat : Int)] w (StepQ B D w (endedD d c)) := by
  have c0 := h.c0
  have f0 := h.fz 0
  have c2 := h.c2
  have f2 := h.fz 2
  have c3 := h.c3
  have f3 := h.fz 3
  have c5 := h.c5
  have f5 := h.fz 5
  have hst := store_fn (P := Try.prog) D (.func (.func 21) #[.pointer (some ⟨D, 0, none⟩)] #[]) rfl
  have hbw := ((((Below.refl B w).setCell (p := ⟨D, 2, none⟩) hB (.int .i64 0)).setCell (p := ⟨D, 3, none⟩) hB (.int .i64 0)).setCell (p := ⟨D, 5, none⟩) hB (.bool false)).setCell (p := ⟨D, 0, none⟩) hB (.func (.func 21) #[.pointer (some ⟨D, 0, none⟩)] #[])
  by_cases hc : c = 10
  · have hr : endedD d c = (0, { d with line := 0, digits := 0, behind := false, ph := 0 }) := if_pos hc
    have hd := (((h.set 2 (.int .i64 0) { d with line := 0 } rfl rfl).set 3 (.int .i64 0) { d with line := 0, digits := 0 } rfl rfl).set 5 (.bool false) { d with line := 0, digits := 0, behind := false } rfl rfl).set 0 (phF D 0) { d with line := 0, digits := 0, behind := false, ph := 0 } rfl rfl
    rw [hr]
    subst hc
    clear hr
    go_enter Try.func38, Try.ntmps38
    go_wp2
    go_ret
    exact ⟨rfl, fun _ => ⟨v, hd⟩, hbw⟩
  · have hr : endedD d c = (4, d) := if_neg hc
    have k := ne_nat (n := 10) (by decide) hc
    rw [hr]
    clear hr
    go_enter Try.func38, Try.ntmps38
    go_wp2
    go_ret
    exact StepQ.bad hbw (by decide)
set_option maxHeartbeats 1000000 in
theorem trailed_any (B D : Nat) (d : Dec) (v : Value) (c : UInt8) (w : World) (h : DecAt D d v w) (hB : B ≤ D) :
    Calls Try.prog 36 #[.pointer (some ⟨D, 0, none⟩), .int .u8 (c.toNat : Int)] w (StepQ B D w (trailedD d c)) := by
  have c0 := h.c0
  have f0 := h.fz 0
  have c2 := h.c2
  have f2 := h.fz 2
  have c7 := h.c7
  have f7 := h.fz 7
  have hst := store_fn (P := Try.prog) D (.func (.func 33) #[.pointer (some ⟨D, 0, none⟩)] #[]) rfl
  by_cases hc : c = 10
  · have hr : trailedD d c = (0, { d with done := ((d.line : Int) == 0), line := 0, ph := 5 }) := if_pos hc
    have hd := ((h.set 7 (.bool (((d.line : Int) == 0))) { d with done := ((d.line : Int) == 0) } rfl rfl).set 2 (.int .i64 0) { d with done := ((d.line : Int) == 0), line := 0 } rfl rfl).set 0 (phF D 5) { d with done := ((d.line : Int) == 0), line := 0, ph := 5 } rfl rfl
    have hbw := (((Below.refl B w).setCell (p := ⟨D, 7, none⟩) hB (.bool (((d.line : Int) == 0)))).setCell (p := ⟨D, 2, none⟩) hB (.int .i64 0)).setCell (p := ⟨D, 0, none⟩) hB (.func (.func 33) #[.pointer (some ⟨D, 0, none⟩)] #[])
    rw [hr]
    subst hc
    clear hr
    go_enter Try.func36, Try.ntmps36
    go_wp2
    go_ret
    exact ⟨rfl, fun _ => ⟨v, hd⟩, hbw⟩
  · have hr : trailedD d c = (4, d) := if_neg hc
    have k := ne_nat (n := 10) (by decide) hc
    rw [hr]
    clear hr
    go_enter Try.func36, Try.ntmps36
    go_wp2
    go_ret
    exact StepQ.bad (Below.refl _ _) (by decide)
end Go.Proofs.Ytggbgpmjfncklaa
