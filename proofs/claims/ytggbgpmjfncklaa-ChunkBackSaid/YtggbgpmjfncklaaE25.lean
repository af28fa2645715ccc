/- package chunk: the machine as a plain function; Decode. -/
import Derived.Test.YtggbgpmjfncklaaProg
import Derived.Test.YtggbgpmjfncklaaD25
namespace Go.Proofs.Ytggbgpmjfncklaa
open Go.RowKit
set_option linter.unusedVariables false
set_option linter.unusedSimpArgs false
def stepD (d : Dec) (c : UInt8) : Int × Dec := match d.ph with
  | 0 => headD d c
  | 1 => headedD d c
  | 2 => dataD d c
  | 3 => shutD d c
  | 4 => endedD d c
  | 5 => trailerD d c
  | _ => trailedD d c
structure Inv (d : Dec) : Prop where
  ph : d.ph ≤ 6
  line : d.line ≤ 64
  digits : d.digits ≤ 6
  trailers : d.trailers ≤ 16
  body : d.body.length ≤ 65536
  size : d.size < 16 ^ d.digits
  inData : d.ph = 2 → 1 ≤ d.size ∧ d.body.length + d.size ≤ 65536
  behindData : 3 ≤ d.ph → d.size = 0
theorem pow16 (n : Nat) (h : n ≤ 6) : 16 ^ n ≤ 16777216 := by
  have : 16 ^ n ≤ 16 ^ 6 := Nat.pow_le_pow_right (by decide) h
  simpa using this
theorem Inv.sz {d : Dec} (h : Inv d) : d.size < 16777216 := Nat.lt_of_lt_of_le h.size (pow16 _ h.digits)
theorem inv_long {d : Dec} (h : Inv d) (h0 : (longD d).1 = 0) : Inv (longD d).2 := by
  unfold longD at h0 ⊢
  split at h0
  · cases h0
  · rename_i hh
    rw [if_neg hh]
    exact ⟨h.ph, by simp only; omega, h.digits, h.trailers, h.body, h.size, h.inData, h.behindData⟩
theorem inv_step {d : Dec} (h : Inv d) (c : UInt8) (h0 : (stepD d c).1 = 0) : Inv (stepD d c).2 := by
  obtain ⟨hp, hl, hd, ht, hb, hs, hi, hz⟩ := h
  have hsz := Nat.lt_of_lt_of_le hs (pow16 _ hd)
  rcases (by omega : d.ph = 0 ∨ d.ph = 1 ∨ d.ph = 2 ∨ d.ph = 3 ∨ d.ph = 4 ∨ d.ph = 5 ∨ d.ph = 6) with e | e | e | e | e | e | e
  · unfold stepD at h0 ⊢
    rw [e] at h0 ⊢
    simp only at h0 ⊢
    unfold headD at h0 ⊢
    split
    · exact ⟨by simp, hl, hd, ht, hb, hs, by simp, by simp⟩
    · rename_i h1
      rw [if_neg h1] at h0
      split
      · rename_i h2
        rw [if_pos h2] at h0
        split
        · rename_i h3
          rw [if_pos h3] at h0
          exact inv_long ⟨hp, hl, hd, ht, hb, hs, hi, hz⟩ h0
        · exact ⟨hp, hl, hd, ht, hb, hs, hi, hz⟩
      · rename_i h2
        rw [if_neg h2] at h0
        split
        · rename_i h3
          rw [if_pos h3] at h0
          exact inv_long ⟨hp, hl, hd, ht, hb, hs, hi, hz⟩ h0
        · rename_i h3
          rw [if_neg h3] at h0
          split
          · rename_i h4
            rw [if_pos h4] at h0
            split
            · exact ⟨hp, hl, hd, ht, hb, hs, hi, hz⟩
            · rename_i h5
              rw [if_neg h5] at h0
              refine inv_long ⟨by simp only; omega, hl, by simp only; omega, ht, hb, ?_, by simp only; omega, by simp only; omega⟩ h0
              have := digN_hi c
              simp only [Nat.pow_succ]
              omega
          · exact ⟨hp, hl, hd, ht, hb, hs, hi, hz⟩
  · unfold stepD at h0 ⊢
    rw [e] at h0 ⊢
    simp only at h0 ⊢
    unfold headedD at h0 ⊢
    split
    · rename_i h1
      rw [if_pos h1] at h0
      split
      · exact ⟨hp, hl, hd, ht, hb, hs, hi, hz⟩
      · rename_i h2
        refine ⟨by simp only; split <;> omega, by simp, hd, ht, hb, hs, ?_, ?_⟩
        · simp only
          split <;> omega
        · simp only
          split <;> omega
    · exact ⟨hp, hl, hd, ht, hb, hs, hi, hz⟩
  · unfold stepD at h0 ⊢
    rw [e] at h0 ⊢
    simp only at h0 ⊢
    unfold dataD at h0 ⊢
    obtain ⟨hi1, hi2⟩ := hi e
    refine ⟨by simp only; split <;> omega, hl, hd, ht, by simp; omega, by simp only; omega, ?_, ?_⟩
    · simp
      split <;> omega
    · simp
      split <;> omega
  · unfold stepD at h0 ⊢
    rw [e] at h0 ⊢
    simp only at h0 ⊢
    unfold shutD at h0 ⊢
    have hz0 := hz (by omega)
    split
    · exact ⟨by simp, hl, hd, ht, hb, hs, by simp, fun _ => hz0⟩
    · exact ⟨hp, hl, hd, ht, hb, hs, hi, hz⟩
  · unfold stepD at h0 ⊢
    rw [e] at h0 ⊢
    simp only at h0 ⊢
    unfold endedD at h0 ⊢
    have hz0 := hz (by omega)
    split
    · exact ⟨by simp, by simp, by simp, ht, hb, by simp [hz0], by simp, by simp⟩
    · exact ⟨hp, hl, hd, ht, hb, hs, hi, hz⟩
  · unfold stepD at h0 ⊢
    rw [e] at h0 ⊢
    simp only at h0 ⊢
    unfold trailerD at h0 ⊢
    have hz0 := hz (by omega)
    split
    · exact ⟨by simp, hl, hd, ht, hb, hs, by simp, fun _ => hz0⟩
    · rename_i h1
      rw [if_neg h1] at h0
      split
      · rename_i h2
        rw [if_pos h2] at h0
        split
        · rename_i h3
          rw [if_pos h3] at h0
          split
          · exact ⟨hp, hl, hd, ht, hb, hs, hi, hz⟩
          · rename_i h4
            rw [if_neg h4] at h0
            exact inv_long ⟨hp, hl, hd, by simp only; omega, hb, hs, hi, hz⟩ h0
        · rename_i h3
          rw [if_neg h3] at h0
          exact inv_long ⟨hp, hl, hd, ht, hb, hs, hi, hz⟩ h0
      · exact ⟨hp, hl, hd, ht, hb, hs, hi, hz⟩
  · unfold stepD at h0 ⊢
    rw [e] at h0 ⊢
    simp only at h0 ⊢
    unfold trailedD at h0 ⊢
    have hz0 := hz (by omega)
    split
    · exact ⟨by simp, by simp, hd, ht, hb, hs, by simp, fun _ => hz0⟩
    · exact ⟨hp, hl, hd, ht, hb, hs, hi, hz⟩
/-- What a run answers: the body, how many bytes it took, the error. -/
def runD : Dec → List UInt8 → Nat → List UInt8 × Nat × Int
  | _, [], _ => ([], 0, 9)
  | d, c :: r, n => if (stepD d c).1 = 0 then (if (stepD d c).2.done = true then ((stepD d c).2.body, n + 1, 0) else runD (stepD d c).2 r (n + 1)) else ([], 0, (stepD d c).1)
def dec0 : Dec := ⟨0, [], 0, 0, 0, false, 0, false⟩
theorem inv0 : Inv dec0 := ⟨by decide, by decide, by decide, by decide, by decide, by decide, by decide, by decide⟩
theorem step_any (B D : Nat) (d : Dec) (v : Value) (c : UInt8) (w : World) (h : DecAt D d v w) (hB : B ≤ D) (hi : Inv d) :
    ∃ f : Nat, (f = 21 ∨ f = 26 ∨ f = 32 ∨ f = 35 ∨ f = 38 ∨ f = 33 ∨ f = 36) ∧ phF D d.ph = .func (.func f) #[.pointer (some ⟨D, 0, none⟩)] #[] ∧ Calls Try.prog f #[.pointer (some ⟨D, 0, none⟩), .int .u8 (c.toNat : Int)] w (StepQ B D w (stepD d c)) := by
  have hsz := hi.sz
  have hl := hi.line
  have hd := hi.digits
  have ht := hi.trailers
  have hbd := hi.body
  have hp := hi.ph
  rcases (by omega : d.ph = 0 ∨ d.ph = 1 ∨ d.ph = 2 ∨ d.ph = 3 ∨ d.ph = 4 ∨ d.ph = 5 ∨ d.ph = 6) with e | e | e | e | e | e | e
  · exact ⟨21, by decide, by rw [e]; rfl, by unfold stepD; rw [e]; exact head_any B D d v c w h hB (by omega) (by omega) (by omega)⟩
  · exact ⟨26, by decide, by rw [e]; rfl, by unfold stepD; rw [e]; exact headed_any B D d v c w h hB (by omega) (by omega) e⟩
  · exact ⟨32, by decide, by rw [e]; rfl, by unfold stepD; rw [e]; exact data_any B D d v c w h hB (by omega) (hi.inData e).1 (by omega) e⟩
  · exact ⟨35, by decide, by rw [e]; rfl, by unfold stepD; rw [e]; exact shut_any B D d v c w h hB⟩
  · exact ⟨38, by decide, by rw [e]; rfl, by unfold stepD; rw [e]; exact ended_any B D d v c w h hB⟩
  · exact ⟨33, by decide, by rw [e]; rfl, by unfold stepD; rw [e]; exact trailer_any B D d v c w h hB (by omega) (by omega)⟩
  · exact ⟨36, by decide, by rw [e]; rfl, by unfold stepD; rw [e]; exact trailed_any B D d v c w h hB⟩
theorem ownsRow_cap {w : World} {B n m cap : Nat} {e : TypeId} {a : Addr} {xs : List Value} (h : w.ownsRow B e 1 (.slice (some a) m cap) n xs) : n ≤ cap := by
  rcases h.2 with ⟨h, _⟩ | ⟨g, c, cur, hv, _, _, h, _⟩
  · cases h
  · injection hv with _ _ h3
    omega
/-- What came out: a list of the call's own. -/
def Out (B : Nat) (w' : World) (x : Value) (l : List UInt8) : Prop := (x = .slice none 0 0 ∧ l = []) ∨ ∃ g c, x = .slice (some ⟨g, 0, none⟩) l.length l.length ∧ w'.ownsRow B 5 1 (.slice (some ⟨g, 0, none⟩) l.length c) l.length (Lib.byteCells l)
theorem ownsRow_le {w : World} {B B' n : Nat} {e : TypeId} {v : Value} {xs : List Value} (h : w.ownsRow B e 1 v n xs) (hb : B' ≤ B) : w.ownsRow B' e 1 v n xs := Go.Joins.ownsRow_le h hb
set_option maxRecDepth 10000 in
set_option maxHeartbeats 2000000 in
theorem decode_any (b : Value) (l : List UInt8) (w : World) (hl : l.length ≤ 1000000) (hb : Src w b (Lib.byteCells l)) :
    Calls Try.prog 8 #[b] w fun e w' => (∃ x, e = .returned (.tuple #[x, .int .i64 ((runD dec0 l 0).2.1 : Int), .int .i64 (runD dec0 l 0).2.2]) ∧ Out w.heap.size w' x (runD dec0 l 0).1) ∧ Below w.heap.size w w' := by
  have hblen : (Lib.byteCells l).length = l.length := by simp [Lib.byteCells]
  obtain ⟨A0, cp0, hbv⟩ : ∃ A c, b = .slice A l.length c := by
    rcases hb with ⟨A, c, rfl, _, h⟩ | ⟨b, off, c, hu, _, _⟩
    · rw [h] at hblen
      exact ⟨A, c, by rw [← hblen]; rfl⟩
    · rw [hblen] at hu
      exact ⟨_, c, hu⟩
  subst hbv
  obtain ⟨R, hR⟩ : ∃ R, runD dec0 l 0 = R := ⟨_, rfl⟩
  rw [hR]
  have HR0 := Lib.hid hR
  clear hR
  have hcl : ∀ k, k < l.length → ∃ c : UInt8, ∃ b off, A0 = some ⟨b, off, none⟩ ∧ l[k]? = some c ∧ w.cell? ⟨b, off + k, none⟩ = some (.int .u8 (c.toNat : Int)) ∧ l.drop k = c :: l.drop (k + 1) := fun k hk => by
    obtain ⟨c, hc, hdr⟩ := next_elem l k hk
    obtain ⟨b, off, hA, hcell⟩ := hb.rd.1 (by intro e; simp [Lib.byteCells] at e; simp [e] at hk)
    exact ⟨c, b, off, hA, hc, hcell k _ (by simp [Lib.byteCells, hc]), hdr⟩
  have HCL := Lib.hid hcl
  clear hcl hb
  have hst := store_fn (P := Try.prog) w.heap.size (.func (.func 21) #[.pointer (some ⟨w.heap.size, 0, none⟩)] #[]) rfl
  have hst0 := hst (w.alloc (.cells #[.nilFunc, .slice none 0 0, .int .i64 0, .int .i64 0, .int .i64 0, .bool false, .int .i64 0, .bool false] 42)) (by rw [cell_of_row _ _ 0 _ _ (0, 0) (heap_alloc_new w _)]; rfl) (Go.Joins.unfrozen_of_block (heap_alloc_new w _) 0)
  go_enter Try.func8, Try.ntmps8
  go_wp2_with fail
  have hD0 : DecAt w.heap.size dec0 (.slice none 0 0) (w.alloc (.cells #[.func (.func 21) #[.pointer (some ⟨w.heap.size, 0, none⟩)] #[], .slice none 0 0, .int .i64 0, .int .i64 0, .int .i64 0, .bool false, .int .i64 0, .bool false] 42)) :=
    ⟨heap_alloc_new w _, by simp [dec0, Lib.byteCells], .inl ⟨rfl, rfl⟩⟩
  go_loopw [18] (fun i wr => ∃ (k : Nat) (d : Dec) (v : Value), k ≤ l.length ∧ i = .int .i64 k ∧ DecAt w.heap.size d v wr ∧ Below w.heap.size w wr ∧ Inv d ∧ Hid (runD d (l.drop k) k = R)) (fun i _ => l.length - (intOf i).toNat)
  case atStart => exact ⟨0, dec0, _, Nat.zero_le _, rfl, hD0, (Below.refl _ w).alloc (Nat.le_refl _) _, inv0, HR0⟩
  case round =>
    clear hD0
    obtain ⟨k, d, v, hk, rfl, hD, hbw, hInv, H⟩ := hrel
    by_cases hlt : k < l.length
    · obtain ⟨c, bb, off, rfl, hlc, hcell, hdr⟩ := HCL.out k hlt
      have hcr := below_cell hbw hcell
      rw [hdr] at H
      obtain ⟨f, hfm, hf, hcall⟩ := step_any w.heap.size w.heap.size d v c wr hD (Nat.le_refl _) hInv
      have c0 := hD.c0
      rw [hf] at c0
      have HI := Lib.hid hInv
      have HC := Lib.hid hcall
      obtain ⟨r, hr⟩ : ∃ r, stepD d c = r := ⟨_, rfl⟩
      rw [hr] at HC
      have HRr := Lib.hid hr
      clear hcall hr hcell hdr hlc hf hInv
      rcases hfm with rfl | rfl | rfl | rfl | rfl | rfl | rfl
      all_goals (
        go_wp2_with fail
        refine HC.out.mono ?_
        rintro e w2 ⟨rfl, h2, h3⟩
        have hbw2 := hbw.trans h3
        by_cases he : r.1 = 0
        · obtain ⟨v2, hD2⟩ := h2 he
          have c7 := hD2.c7
          have hi2 : Inv r.2 := by rw [← HRr.out]; exact inv_step HI.out c (by rw [HRr.out]; exact he)
          have HI2 := Lib.hid hi2
          clear h2 hi2
          by_cases hdn : r.2.done = true
          · have hRe : R = (r.2.body, k + 1, 0) := by
              rw [← H.out]
              unfold runD
              rw [HRr.out, if_pos he, if_pos hdn]
            have HRe := Lib.hid hRe
            clear hRe
            rw [hdn] at c7
            have c1 := hD2.c1
            have hown := hD2.own
            obtain ⟨n, hn⟩ : ∃ n, r.2.body.length = n := ⟨_, rfl⟩
            rw [hn] at hown
            have HN := Lib.hid hn
            clear hn
            rcases Go.Joins.ownsRow_forms hown with ⟨rfl, h0⟩ | ⟨g, cap, rfl⟩
            · subst h0
              go_wp2
              go_quiet (fail)
              go_wp2
              go_ret3
              exact ⟨⟨_, by rw [HRe.out]; rfl, .inl ⟨rfl, by rw [HRe.out]; exact List.eq_nil_of_length_eq_zero HN.out⟩⟩, below_drewN hbw2 _⟩
            · have hcap := ownsRow_cap hown
              go_wp2
              go_quiet (fail)
              go_wp2
              go_ret3
              refine ⟨⟨_, by rw [HRe.out]; rfl, .inr ⟨g, cap, ?_, ?_⟩⟩, below_drewN hbw2 _⟩
              · rw [HRe.out]
                simp only [HN.out]
                rfl
              · rw [HRe.out]
                simp only [HN.out]
                exact ownsRow_le hown (Nat.le_succ _)
          · have hdf : r.2.done = false := by simpa using hdn
            rw [hdf] at c7
            go_wp2
            go_roundw
            case rel => exact ⟨k + 1, r.2, v2, by omega, by go_num, hD2, hbw2, HI2.out, Lib.hid (by
              rw [← H.out]
              conv => rhs; unfold runD
              rw [HRr.out, if_pos he, if_neg hdn])⟩
            case measure => simp [intOf]; omega
        · have he' : ¬ (r.1 == 0) = true := by simpa using he
          have hRe : R = ([], 0, r.1) := by
            rw [← H.out]
            unfold runD
            rw [HRr.out, if_neg he]
          subst hRe
          clear h2
          go_wp2
          go_ret3
          exact ⟨⟨_, rfl, .inl ⟨rfl, rfl⟩⟩, hbw2⟩)
    · rw [List.drop_of_length_le (by omega)] at H
      have hRe : R = ([], 0, 9) := H.out.symm
      subst hRe
      go_wp2
      go_ret3
      exact ⟨⟨_, rfl, .inl ⟨rfl, rfl⟩⟩, hbw⟩
end Go.Proofs.Ytggbgpmjfncklaa
