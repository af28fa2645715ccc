/- stowageref25.Decode. -/
import Derived.Test.YtggbgpmjfncklaaProg
import Derived.Test.YtggbgpmjfncklaaJ25
namespace Go.Proofs.Ytggbgpmjfncklaa
open Go.RowKit
set_option linter.unusedVariables false
set_option linter.unusedSimpArgs false
theorem data_run : ∀ (x y : List UInt8) (st : Dec) (k : Nat), st.ph = 2 → st.done = false → x.length < st.size → runD st (x ++ y) k = runD { st with body := st.body ++ x, size := st.size - x.length } y (k + x.length)
  | [], y, st, k, _, _, _ => by simp
  | c :: x, y, st, k, h2, hd, hl => by
    simp only [List.length_cons] at hl
    have hs : stepD st c = (0, { st with body := st.body ++ [c], size := st.size - 1 }) := by
      unfold stepD
      rw [h2]
      simp only
      unfold dataD
      rw [if_neg (by omega), ← h2]
    rw [List.cons_append, runD_go st c _ _ (by rw [hs]) (by rw [hs]; exact hd), hs]
    simp only
    rw [data_run x y { st with body := st.body ++ [c], size := st.size - 1 } _ h2 hd (by simp only; omega)]
    simp only [List.length_cons, List.append_assoc, List.cons_append, List.nil_append]
    rw [show st.size - 1 - x.length = st.size - (x.length + 1) by omega, show k + 1 + x.length = k + (x.length + 1) by omega]
theorem data_all : ∀ (x y : List UInt8) (st : Dec) (k : Nat), st.ph = 2 → st.done = false → x ≠ [] → x.length = st.size → runD st (x ++ y) k = runD { st with body := st.body ++ x, size := 0, ph := 3 } y (k + x.length)
  | [], _, _, _, _, _, h, _ => absurd rfl h
  | [c], y, st, k, h2, hd, _, hl => by
    simp at hl
    have hs : stepD st c = (0, { st with body := st.body ++ [c], size := 0, ph := 3 }) := by
      unfold stepD
      rw [h2]
      simp only
      unfold dataD
      rw [if_pos hl.symm, ← hl]
    rw [List.cons_append, List.nil_append, runD_go st c _ _ (by rw [hs]) (by rw [hs]; exact hd), hs]
    rfl
  | c :: c2 :: x, y, st, k, h2, hd, _, hl => by
    simp only [List.length_cons] at hl
    have hs : stepD st c = (0, { st with body := st.body ++ [c], size := st.size - 1 }) := by
      unfold stepD
      rw [h2]
      simp only
      unfold dataD
      rw [if_neg (by omega), ← h2]
    rw [List.cons_append, runD_go st c _ _ (by rw [hs]) (by rw [hs]; exact hd), hs]
    simp only
    rw [data_all (c2 :: x) y { st with body := st.body ++ [c], size := st.size - 1 } _ h2 hd (by simp) (by simp only [List.length_cons]; omega)]
    simp only [List.length_cons, List.append_assoc, List.cons_append, List.nil_append]
    rw [show k + 1 + (x.length + 1) = k + (x.length + 1 + 1) by omega]
theorem li_heads {body p : List UInt8} {st : Dec} (h : LI body p st) : headGo p 0 = 0 ∧ numGo p 0 = st.size := by
  cases hb : st.behind with
  | true =>
    obtain ⟨_, h1, h2⟩ := h.beh hb
    have a := h1 []
    have b := h2 []
    rw [List.append_nil] at a b
    exact ⟨a, b⟩
  | false =>
    obtain ⟨_, h1, h2⟩ := h.nob hb
    have a := h1 []
    have b := h2 []
    rw [List.append_nil] at a b
    exact ⟨by rw [a]; rfl, by rw [b]; rfl⟩
/-- Behind a chunk's line: what the machine says. -/
theorem dec_big {body p r : List UInt8} {st : Dec} (h : LI body p st) (k : Nat) (hb : 65536 < body.length + st.size) : runD { st with ph := 1 } (10 :: r) k = ([], 0, 3) := by
  refine runD_bad _ _ _ _ 3 ?_ (by decide)
  unfold stepD
  simp only
  unfold headedD
  rw [if_pos rfl, if_pos (by simp only [h.body]; exact hb)]
theorem dec_zero {body p r : List UInt8} {st : Dec} (h : LI body p st) (k : Nat) (hb : body.length ≤ 65536) (h0 : st.size = 0) : runD { st with ph := 1 } (10 :: r) k = runD { st with ph := 5, line := 0 } r (k + 1) := by
  have hs : stepD { st with ph := 1 } 10 = (0, { st with ph := 5, line := 0 }) := by
    unfold stepD
    simp only
    unfold headedD
    rw [if_pos rfl, if_neg (by simp only [h.body]; omega), if_pos h0]
  rw [runD_go _ _ _ _ (by rw [hs]) (by rw [hs]; exact h.done), hs]
theorem dec_data {body p r : List UInt8} {st : Dec} (h : LI body p st) (k : Nat) (hb : ¬ 65536 < body.length + st.size) (h0 : st.size ≠ 0) : runD { st with ph := 1 } (10 :: r) k = runD { st with ph := 2, line := 0 } r (k + 1) := by
  have hs : stepD { st with ph := 1 } 10 = (0, { st with ph := 2, line := 0 }) := by
    unfold stepD
    simp only
    unfold headedD
    rw [if_pos rfl, if_neg (by simp only [h.body]; exact hb), if_neg h0]
  rw [runD_go _ _ _ _ (by rw [hs]) (by rw [hs]; exact h.done), hs]
/-- Behind a chunk's data: too little of it. -/
theorem dec_short {body p x : List UInt8} {st : Dec} (h : LI body p st) (k : Nat) (hx : x.length < st.size) : runD { st with ph := 2, line := 0 } x k = ([], 0, 9) := by
  have := data_run x [] { st with ph := 2, line := 0 } k rfl h.done hx
  rw [List.append_nil] at this
  rw [this]
  rfl
theorem dec_full {body p x r : List UInt8} {st : Dec} (h : LI body p st) (k : Nat) (h0 : st.size ≠ 0) (hx : x.length = st.size) : runD { st with ph := 2, line := 0 } (x ++ r) k = runD { st with ph := 3, line := 0, size := 0, body := body ++ x } r (k + x.length) := by
  rw [data_all x r { st with ph := 2, line := 0 } k rfl h.done (by intro e; rw [e] at hx; exact h0 hx.symm) hx]
  simp only [h.body]
theorem dec_shut {st : Dec} (c : UInt8) (r : List UInt8) (k : Nat) (hd : st.done = false) (h3 : st.ph = 3) : runD st (c :: r) k = if c = 13 then runD { st with ph := 4 } r (k + 1) else ([], 0, 4) := by
  have e : stepD st c = shutD st c := by unfold stepD; rw [h3]; rfl
  by_cases h13 : c = 13
  · have hs : stepD st c = (0, { st with ph := 4 }) := by rw [e]; unfold shutD; rw [if_pos h13]
    rw [if_pos h13, runD_go _ _ _ _ (by rw [hs]) (by rw [hs]; exact hd), hs]
  · rw [if_neg h13]
    exact runD_bad _ _ _ _ 4 (by rw [e]; unfold shutD; rw [if_neg h13]) (by decide)
theorem dec_ended {body p : List UInt8} {st : Dec} (h : LI body p st) (x : List UInt8) (c : UInt8) (r : List UInt8) (k : Nat) : runD { st with ph := 4, line := 0, size := 0, body := body ++ x } (c :: r) k = if c = 10 then runD (fresh (body ++ x)) r (k + 1) else ([], 0, 4) := by
  by_cases h13 : c = 10
  · have hs : stepD { st with ph := 4, line := 0, size := 0, body := body ++ x } c = (0, fresh (body ++ x)) := by
      unfold stepD
      simp only
      unfold endedD fresh
      rw [if_pos h13]
      simp only [h.trailers, h.done]
    rw [if_pos h13, runD_go _ _ _ _ (by rw [hs]) (by rw [hs]; rfl), hs]
  · rw [if_neg h13]
    exact runD_bad _ _ _ _ 4 (by unfold stepD; simp only; unfold endedD; rw [if_neg h13]) (by decide)
/-- The lines behind the last chunk. -/
theorem trl_full {d : Dec} (c : UInt8) (r : List UInt8) (k : Nat) (h5 : d.ph = 5) (h0 : d.line = 0) (ht : d.trailers = 16) (h13 : c ≠ 13) : runD d (c :: r) k = ([], 0, if showsB c = true then 3 else 4) := by
  have e : stepD d c = trailerD d c := by unfold stepD; rw [h5]; rfl
  refine runD_bad _ _ _ _ _ ?_ (by split <;> decide)
  rw [e]
  unfold trailerD
  rw [if_neg h13]
  by_cases hs : showsB c = true
  · rw [if_pos hs, if_pos h0, if_pos (by omega), if_pos hs]
  · rw [if_neg hs, if_neg hs]
theorem trl_end {d : Dec} (m : Nat) (r : List UInt8) (k : Nat) (h5 : d.ph = 5) (h0 : d.line = 0) (hd : d.done = false) : runD { trl d m with ph := 6 } (10 :: r) k = if m = 0 then (d.body, k + 1, 0) else runD { d with trailers := d.trailers + 1 } r (k + 1) := by
  by_cases hm : m = 0
  · have e : trl d m = d := by unfold trl; rw [if_pos hm]
    rw [e, if_pos hm]
    have hs : stepD { d with ph := 6 } 10 = (0, { d with done := true, line := 0, ph := 5 }) := by
      unfold stepD
      simp only
      unfold trailedD
      rw [if_pos rfl]
      simp only [h0]
      rfl
    unfold runD
    rw [hs]
    simp
  · have e : trl d m = { d with line := m, trailers := d.trailers + 1 } := by unfold trl; rw [if_neg hm]
    rw [e, if_neg hm]
    have hs : stepD { d with ph := 6, line := m, trailers := d.trailers + 1 } 10 = (0, { d with trailers := d.trailers + 1 }) := by
      have hmm : (((m : Nat) : Int) == 0) = false := by simp; omega
      unfold stepD
      simp only
      unfold trailedD
      rw [if_pos rfl]
      simp only [hmm]
      rw [← h5, ← h0, ← hd]
    rw [runD_go _ _ _ _ (by rw [hs]) (by rw [hs]; exact hd), hs]
/-- A part of a slice. -/
theorem src_part {w : World} {b off cp : Nat} {l : List UInt8} (h : Src w (.slice (some ⟨b, off, none⟩) l.length cp) (Lib.byteCells l)) (i j : Nat) (hij : i < j) (hj : j ≤ l.length) :
    ¬ cp = i ∧ j ≤ cp ∧ Src w (.slice (some ⟨b, off + i, none⟩) (j - i) (cp - i)) (Lib.byteCells ((l.drop i).take (j - i))) := by
  have hcp : l.length ≤ cp := by
    rcases h with ⟨_, _, h1, _, h2⟩ | ⟨_, _, _, h1, h2, _⟩
    · injection h1 with _ h3 _; omega
    · injection h1 with _ h3 h4; simp [Lib.byteCells] at h2; omega
  have hd := hs_take (h.drop (k := i) (by omega)) (j - i) (by omega)
  rw [if_neg (by omega)] at hd
  have hb : ((Lib.byteCells l).drop i).take (j - i) = Lib.byteCells ((l.drop i).take (j - i)) := by simp [Lib.byteCells, List.map_drop, List.map_take]
  rw [hb] at hd
  exact ⟨by omega, by omega, hd⟩
theorem ownsRow_slice {w : World} {B n : Nat} {e : TypeId} {v : Value} {xs : List Value} (h : w.ownsRow B e 1 v n xs) : ∃ A c, v = .slice A n c := by
  rcases Go.Joins.ownsRow_forms h with ⟨rfl, h0⟩ | ⟨g, cap, rfl⟩
  · exact ⟨none, 0, by rw [h0]⟩
  · exact ⟨_, _, rfl⟩
def RQ (B : Nat) (R : List UInt8 × Nat × Int) (w : World) (e : Ending) (w' : World) : Prop :=
  (∃ x, e = .returned (.tuple #[x, .int .i64 (R.2.1 : Int), .int .i64 R.2.2]) ∧ w'.ownsRow B 5 1 x R.1.length (Lib.byteCells R.1)) ∧ Below B w w'
theorem RQ.bad {B : Nat} {R : List UInt8 × Nat × Int} {w w' : World} {err : Int} (h : R = ([], 0, err)) (hb : Below B w w') : RQ B R w (.returned (.tuple #[.slice none 0 0, .int .i64 0, .int .i64 err])) w' := by
  subst h
  exact ⟨⟨_, rfl, by simp [Lib.byteCells], .inl ⟨rfl, rfl⟩⟩, hb⟩
set_option maxRecDepth 10000 in
set_option maxHeartbeats 2000000 in
theorem rDecode_any (b : Value) (l : List UInt8) (w : World) (hl : l.length ≤ 100000) (hb : Src w b (Lib.byteCells l)) :
    Calls Try.prog 9 #[b] w (RQ w.heap.size (runD dec0 l 0) w) := by
  obtain ⟨i0, hi, hz0, hz1, hz2⟩ := info_parts infoU8
  have hblen : (Lib.byteCells l).length = l.length := by simp [Lib.byteCells]
  obtain ⟨A0, cp, hbv⟩ : ∃ A c, b = .slice A l.length c := by
    rcases hb with ⟨A, c, rfl, _, h⟩ | ⟨b, off, c, hu, _, _⟩
    · rw [h] at hblen
      exact ⟨A, c, by rw [← hblen]; rfl⟩
    · rw [hblen] at hu
      exact ⟨_, c, hu⟩
  subst hbv
  obtain ⟨R, hR⟩ : ∃ R, runD dec0 l 0 = R := ⟨_, rfl⟩
  rw [hR]
  have HR0 := Lib.hid hR
  have HB := Lib.hid hb
  have HCL := Lib.hid (src_cells hb rfl)
  clear hR hb
  go_enter Try.func9, Try.ntmps9
  go_wp2
  go_loopw [5, 6] (fun v i wr => ∃ (a : Nat) (body : List UInt8), a ≤ l.length ∧ i = .int .i64 a ∧ wr.ownsRow w.heap.size 5 1 v body.length (Lib.byteCells body) ∧ Below w.heap.size w wr ∧ body.length ≤ 65536 ∧ Hid (runD (fresh body) (l.drop a) a = R)) (fun _ i _ => l.length - (intOf i).toNat)
  case atStart => exact ⟨0, [], Nat.zero_le _, rfl, World.ownsRow_nil _ _ _ _, Below.refl _ _, by decide, HR0⟩
  case round =>
    obtain ⟨a, body, ha, rfl, hown, hbw, hbl, H⟩ := hrel
    obtain ⟨A5, c5, rfl⟩ := ownsRow_slice hown
    have hsr := HB.out.block hbw
    go_wp2_with fail
    refine (lineT_any A0 cp l body a _ (by omega) hsr ha).mono ?_
    rintro e w1 ⟨hok, rfl⟩
    rcases hok with ⟨err, hne, rfl, hrun⟩ | ⟨t2, st, rfl, hat, ht2, hLI, hrun⟩
    · have hr := RQ.bad (w := w) (w' := w1) (H.out.symm.trans hrun) hbw
      have HQ := Lib.hid hr
      have hne' : (err != 0) = true := by simpa using hne
      clear hr hne
      go_wp2
      go_ret3
      exact HQ.out
    · have HR1 := Lib.hid (H.out.symm.trans hrun)
      have ht1 : t2 ≤ l.length := by omega
      obtain ⟨c0, b, off, rfl, -, -, -⟩ := HCL.out a (by omega)
      obtain ⟨hca, hct, hpart⟩ := src_part hsr a t2 hat ht1
      have hpl : ((l.drop a).take (t2 - a)).length = t2 - a := by simp; omega
      have hnum := rnumber_any (some ⟨b, off + a, none⟩) (cp - a) ((l.drop a).take (t2 - a)) w1 (by omega) (by rw [hpl]; exact hpart) (li_heads hLI).1
      rw [hpl, (li_heads hLI).2] at hnum
      have HLI := Lib.hid hLI
      have hsz : st.size < 16777216 := Nat.lt_of_lt_of_le hLI.size (pow16 _ hLI.digits)
      obtain ⟨N, hN⟩ : ∃ N, st.size = N := ⟨_, rfl⟩
      rw [hN] at hnum hsz
      have HN := Lib.hid hN
      clear hrun hpl hpart hLI hN H
      go_wp2_with fail
      refine hnum.mono ?_
      rintro e w2 ⟨rfl, rfl⟩
      clear hnum
      by_cases hbig : 65536 < body.length + N
      · have hr := RQ.bad (w := w) (w' := w2) (HR1.out.trans (dec_big HLI.out _ (by rw [HN.out]; exact hbig))) hbw
        have HQ := Lib.hid hr
        have kb : (65536 : Int) < (body.length : Int) + (N : Int) := by omega
        clear hr
        go_wp2
        go_ret3
        exact HQ.out
      · have kb : ¬ (65536 : Int) < (body.length : Int) + (N : Int) := by omega
        by_cases h0 : N = 0
        · subst h0
          obtain ⟨s0, hs0⟩ : ∃ s0 : Dec, ({ st with ph := 5, line := 0 } : Dec) = s0 := ⟨_, rfl⟩
          have HR2 := Lib.hid (HR1.out.trans (dec_zero HLI.out _ (by omega) HN.out))
          rw [hs0] at HR2
          have HS0 : Hid (s0.ph = 5 ∧ s0.line = 0 ∧ s0.done = false ∧ s0.trailers = 0 ∧ s0.body = body) := Lib.hid (by rw [← hs0]; exact ⟨rfl, rfl, HLI.out.done, HLI.out.trailers, HLI.out.body⟩)
          clear hs0 HLI HN HR1
          go_wp2_with fail
          go_loop [6, 11] (fun i t => ∃ (k n : Nat), k ≤ l.length ∧ n ≤ 16 ∧ i = .int .i64 k ∧ t = .int .i64 n ∧ Hid (runD { s0 with trailers := n } (l.drop k) k = R)) (fun i _ => l.length - (intOf i).toNat)
          case atStart => exact ⟨t2 + 2, 0, by omega, by omega, by go_num, rfl, Lib.hid (by have h := HS0.out.2.2.2.1; rw [← h]; exact HR2.out.symm)⟩
          case round =>
            obtain ⟨k, n, hk, hn, rfl, rfl, H⟩ := hrel
            have HD : Hid (({ s0 with trailers := n } : Dec).ph = 5 ∧ ({ s0 with trailers := n } : Dec).line = 0 ∧ ({ s0 with trailers := n } : Dec).done = false ∧ ({ s0 with trailers := n } : Dec).body = body) := Lib.hid ⟨HS0.out.1, HS0.out.2.1, HS0.out.2.2.1, HS0.out.2.2.2.2⟩
            by_cases hfull : n = 16 ∧ k < l.length ∧ ∀ c, l[k]? = some c → c ≠ 13
            · obtain ⟨rfl, hlt, h13⟩ := hfull
              obtain ⟨c, b', off', e, hlc, hcell, hdr⟩ := HCL.out k hlt
              have e' := Option.some.inj e
              injection e' with hb1 ho1
              subst hb1 ho1
              have hc13 := h13 c hlc
              have hcw := below_cell hbw hcell
              have k13 := ne_nat (n := 13) (by decide) hc13
              have hr := H.out
              rw [hdr, trl_full c _ _ HD.out.1 HD.out.2.1 rfl hc13] at hr
              clear e hlc hcell hdr h13
              by_cases hsh : showsB c = true
              · rw [if_pos hsh] at hr
                have HR3 := Lib.hid hr
                have hcase : (c.toNat : Int) = 9 ∨ ¬ (c.toNat : Int) = 9 ∧ ¬ (c.toNat : Int) < 32 ∧ ¬ (126 : Int) < (c.toNat : Int) := by
                  have h := hsh
                  unfold showsB at h
                  simp at h
                  omega
                clear hr hsh hc13
                rcases hcase with h9 | ⟨h9, h32, h126⟩
                all_goals (
                  go_wp2
                  go_ret3
                  exact RQ.bad HR3.out.symm hbw)
              · rw [if_neg hsh] at hr
                have HR3 := Lib.hid hr
                have hn9 : ¬ (c.toNat : Int) = 9 := fun e => hsh (by unfold showsB; simp; omega)
                have hout : (c.toNat : Int) < 32 ∨ (126 : Int) < (c.toNat : Int) := by
                  rcases Nat.lt_or_ge c.toNat 32 with h | h
                  · left; omega
                  · right
                    rcases Nat.lt_or_ge 126 c.toNat with h2 | h2
                    · omega
                    · exact absurd (by unfold showsB; simp; omega) hsh
                clear hr hsh hc13
                rcases hout with ho | ho
                all_goals (
                  go_wp2
                  all_goals (
                    go_ret3
                    exact RQ.bad HR3.out.symm hbw))
            · have ht : ∀ c, l[k]? = some c → c ≠ 13 → n < 16 := by
                intro c hc h13
                rcases Nat.lt_or_ge n 16 with h | h
                · exact h
                · exact absurd ⟨by omega, (List.getElem?_eq_some_iff.1 hc).1, fun c2 h2 => by rw [hc] at h2; injection h2 with h2; exact h2 ▸ h13⟩ hfull
              have hF := lineF_any (some ⟨b, off, none⟩) cp l { s0 with trailers := n } k w2 (by omega) hsr hk HD.out.1 HD.out.2.1 HD.out.2.2.1 ht
              have HF := Lib.hid hF
              have HT := Lib.hid ht
              have hways : ¬ (n : Int) = 16 ∨ ((n : Int) = 16 ∧ ¬ (k : Int) < (l.length : Int)) ∨ ((n : Int) = 16 ∧ (k : Int) < (l.length : Int) ∧ w2.cell? ⟨b, off + k, none⟩ = some (.int .u8 13)) := by
                by_cases h16 : n = 16
                · right
                  by_cases hlt : k < l.length
                  · right
                    obtain ⟨c, b', off', e, hlc, hcell, hdr⟩ := HCL.out k hlt
                    have e' := Option.some.inj e
                    injection e' with hb1 ho1
                    subst hb1 ho1
                    have h13 : c = 13 := by
                      by_cases h : c = 13
                      · exact h
                      · have := ht c hlc h
                        omega
                    refine ⟨by omega, by omega, ?_⟩
                    rw [below_cell hbw hcell, h13]
                    rfl
                  · left
                    exact ⟨by omega, by omega⟩
                · left
                  omega
              clear hF ht hfull hsr
              rcases hways with h16 | ⟨h16, hlt⟩ | ⟨h16, hlt, hcell⟩
              all_goals (
                go_wp2_with fail
                refine HF.out.mono ?_
                rintro e w3 ⟨hok, rfl⟩
                rcases hok with ⟨err, hne, rfl, hrun⟩ | ⟨t3, rfl, hat, ht3, hnx, hrun⟩
                · have hr := RQ.bad (w := w) (w' := w3) (H.out.symm.trans hrun) hbw
                  have HQ := Lib.hid hr
                  have hne' : (err != 0) = true := by simpa using hne
                  clear hr hne
                  go_wp2
                  go_ret3
                  exact HQ.out
                · have HR3 := Lib.hid ((H.out.symm.trans hrun).trans (trl_end _ _ _ HD.out.1 HD.out.2.1 HD.out.2.2.1))
                  clear hrun
                  have HN := Lib.hid hnx
                  clear hnx
                  by_cases he : t3 = k
                  · subst he
                    have hr := HR3.out
                    rw [if_pos (by omega)] at hr
                    have HR4 := Lib.hid hr
                    clear hr
                    have hRf : R = (body, t3 + 2, 0) := by rw [HR4.out, HD.out.2.2.2]
                    have HRf := Lib.hid hRf
                    clear hRf
                    go_wp2
                    go_ret3
                    exact ⟨⟨.slice A5 body.length c5, by rw [HRf.out]; rfl, by rw [HRf.out]; exact hown⟩, hbw⟩
                  · have hke : ¬ (t3 : Int) = (k : Int) := by omega
                    have hn16 : n < 16 := by
                      obtain ⟨c, hc, h13⟩ := HN.out (by omega)
                      exact HT.out c hc h13
                    have hr := HR3.out
                    rw [if_neg (by omega)] at hr
                    have HR4 := Lib.hid hr
                    clear hr
                    first
                      | (exfalso; omega)
                      | (go_wp2
                         go_round
                         case rel => exact ⟨t3 + 2, n + 1, by omega, by omega, by go_num, by go_num, Lib.hid (by have e := HR4.out; exact e.symm)⟩
                         case measure => simp [intOf]; omega))
        · have k0 : ¬ (N : Int) = 0 := by omega
          have HR2 := Lib.hid (HR1.out.trans (dec_data HLI.out _ (by rw [HN.out]; exact hbig) (by rw [HN.out]; exact h0)))
          have HLc := Lib.hid (show l.length ≤ cp by rcases hsr with ⟨_, _, h1, _, _⟩ | ⟨_, _, _, h1, h2, _⟩; (injection h1; omega); (injection h1; simp [Lib.byteCells] at h2; omega))
          have hone : ∀ x : List UInt8, ∀ v ∈ Lib.byteCells x, v.oneCell' = true := by
            intro x y hy
            simp [Lib.byteCells] at hy
            obtain ⟨c, _, rfl⟩ := hy
            rfl
          have hd := hsr.drop (k := t2 + 2) ht2
          obtain ⟨M, hM⟩ : ∃ M, min N (l.length - (t2 + 2)) = M := ⟨_, rfl⟩
          have hMi : min (N : Int) ((l.length : Int) - ((t2 : Int) + 2)) = (M : Int) := by omega
          have hMn : ((t2 : Int) + 2 + (M : Int)).toNat - (t2 + 2) = M := by omega
          have hx := hs_take hd M (by omega)
          have hMc : t2 + 2 + M ≤ cp := by have := HLc.out; omega
          rw [show ((Lib.byteCells l).drop (t2 + 2)).take M = Lib.byteCells ((l.drop (t2 + 2)).take M) by simp [Lib.byteCells, List.map_drop, List.map_take]] at hx
          have hxl : ((l.drop (t2 + 2)).take M).length = M := by simp; omega
          obtain ⟨x, hxx⟩ : ∃ x, (l.drop (t2 + 2)).take M = x := ⟨_, rfl⟩
          have hsplit : l.drop (t2 + 2) = x ++ l.drop (t2 + 2 + M) := by
            have e := (List.take_append_drop M (l.drop (t2 + 2))).symm
            rw [List.drop_drop, hxx] at e
            exact e
          rw [hxx] at hx hxl
          have h8 := hone x
          have hxc : (Lib.byteCells x).length = M := by simp [Lib.byteCells]; omega
          have HM := Lib.hid hM
          have HS := Lib.hid hsplit
          have HX := Lib.hid hxl
          clear hM hsplit hxx hxl hd hone hsr hca hct
          by_cases hcp2 : cp = t2 + 2
          · have hl0 : l.length = t2 + 2 := by have := HLc.out; omega
            obtain rfl : M = 0 := by have := HM.out; omega
            obtain rfl : x = [] := List.eq_nil_of_length_eq_zero HX.out
            have HR3 : Hid (R = ([], 0, 9)) := Lib.hid (HR2.out.trans (by
              rw [← hl0, List.drop_length]
              rfl))
            have kne : ¬ (0 : Int) = (N : Int) := by omega
            have hlk : l.length ≤ t2 + 2 := by omega
            subst hcp2
            rw [if_pos rfl] at hx
            clear hl0 hMn hxc hMc
            go_wp2_with (at_builtin; (refine wpList_pushL rfl _ _ 22 rfl w.heap.size 5 i0 (.int .u8 0) 1 Try.underlying22 hi hz0 hz1 hz2 rfl _ body.length _ rfl hown _ [] rfl hx h8 (by simp; omega) (by omega) hbw.size ?_; intro v4 w4 hown4 hgrow4; (have hb4 := hbw.grown hgrow4 hbw.size (fun k hk => (hown.lt k hk).1))))
            go_ret3
            exact RQ.bad HR3.out hb4
          · rw [if_neg hcp2] at hx
            replace hx : Src w2 (.slice (some ⟨b, off + (t2 + 2), none⟩) (t2 + 2 + M - (t2 + 2)) (cp - (t2 + 2))) (Lib.byteCells x) := by rw [Nat.add_sub_cancel_left]; exact hx
            by_cases hlt : M < N
            · have HR3 : Hid (R = ([], 0, 9)) := Lib.hid (HR2.out.trans (by
                have e := HS.out
                have := HM.out
                rw [show t2 + 2 + M = l.length by omega, List.drop_length, List.append_nil] at e
                rw [e]
                exact dec_short HLI.out _ (by rw [HX.out, HN.out]; exact hlt)))
              have kne : ¬ (M : Int) = (N : Int) := by omega
              have hown := hown
              go_wp2_with (at_builtin; (refine wpList_pushL rfl _ _ 22 rfl w.heap.size 5 i0 (.int .u8 0) 1 Try.underlying22 hi hz0 hz1 hz2 rfl _ body.length _ rfl hown _ (Lib.byteCells x) rfl hx h8 (by omega) (by omega) hbw.size ?_; intro v4 w4 hown4 hgrow4; (have hb4 := hbw.grown hgrow4 hbw.size (fun k hk => (hown.lt k hk).1))))
              go_ret3
              exact RQ.bad HR3.out hb4
            · obtain rfl : M = N := by have := HM.out; omega
              have HR3 := Lib.hid (HR2.out.trans ((congrArg (fun z => runD _ z _) HS.out).trans (dec_full HLI.out _ (by rw [HN.out]; exact h0) (by rw [HX.out, HN.out]))))
              by_cases hend : l.length ≤ t2 + 2 + M
              · have HR4 : Hid (R = ([], 0, 9)) := Lib.hid (HR3.out.trans (by
                  rw [List.drop_of_length_le hend]
                  rfl))
                go_wp2_with (at_builtin; (refine wpList_pushL rfl _ _ 22 rfl w.heap.size 5 i0 (.int .u8 0) 1 Try.underlying22 hi hz0 hz1 hz2 rfl _ body.length _ rfl hown _ (Lib.byteCells x) rfl hx h8 (by omega) (by omega) hbw.size ?_; intro v4 w4 hown4 hgrow4; (have hb4 := hbw.grown hgrow4 hbw.size (fun k hk => (hown.lt k hk).1))))
                go_ret3
                exact RQ.bad HR4.out hb4
              · obtain ⟨c, b', off', e, hlc, hcell, hdr⟩ := HCL.out (t2 + 2 + M) (by omega)
                have e' := Option.some.inj e
                injection e' with hb1 ho1
                subst hb1 ho1
                have HC1 : Hid (∀ w', Below w.heap.size w w' → w'.cell? ⟨b, off + (t2 + 2 + M), none⟩ = some (.int .u8 (c.toNat : Int))) := Lib.hid fun w' h => below_cell h hcell
                clear e hlc hcell
                rw [hdr] at HR3
                by_cases h13 : c = 13
                · subst h13
                  have HR4 := Lib.hid (HR3.out.trans (by rw [dec_shut (st := { st with ph := 3, line := 0, size := 0, body := body ++ x }) _ _ _ HLI.out.done rfl, if_pos rfl] : _ = runD { st with ph := 4, line := 0, size := 0, body := body ++ x } (l.drop (t2 + 2 + M + 1)) _))
                  by_cases hend2 : l.length ≤ t2 + 2 + M + 1
                  · have HR5 : Hid (R = ([], 0, 9)) := Lib.hid (HR4.out.trans (by
                      rw [List.drop_of_length_le hend2]
                      rfl))
                    go_wp2_with (at_builtin; (refine wpList_pushL rfl _ _ 22 rfl w.heap.size 5 i0 (.int .u8 0) 1 Try.underlying22 hi hz0 hz1 hz2 rfl _ body.length _ rfl hown _ (Lib.byteCells x) rfl hx h8 (by omega) (by omega) hbw.size ?_; intro v4 w4 hown4 hgrow4; (have hb4 := hbw.grown hgrow4 hbw.size (fun k hk => (hown.lt k hk).1)); (have hc1 := HC1.out _ hb4)))
                    go_ret3
                    exact RQ.bad HR5.out hb4
                  · obtain ⟨c2, b2, off2, e, hlc, hcell, hdr2⟩ := HCL.out (t2 + 2 + M + 1) (by omega)
                    have e' := Option.some.inj e
                    injection e' with hb1 ho1
                    subst hb1 ho1
                    have HC2 : Hid (∀ w', Below w.heap.size w w' → w'.cell? ⟨b, off + (t2 + 2 + M + 1), none⟩ = some (.int .u8 (c2.toNat : Int)) ∧ w'.cell? ⟨b, off + (t2 + 2 + M) + 1, none⟩ = some (.int .u8 (c2.toNat : Int))) := Lib.hid fun w' h => ⟨below_cell h hcell, below_cell h hcell⟩
                    clear e hlc hcell
                    rw [hdr2, dec_ended HLI.out] at HR4
                    by_cases h10 : c2 = 10
                    · subst h10
                      rw [if_pos rfl] at HR4
                      go_wp2_with (at_builtin; (refine wpList_pushL rfl _ _ 22 rfl w.heap.size 5 i0 (.int .u8 0) 1 Try.underlying22 hi hz0 hz1 hz2 rfl _ body.length _ rfl hown _ (Lib.byteCells x) rfl hx h8 (by omega) (by omega) hbw.size ?_; intro v4 w4 hown4 hgrow4; (have hb4 := hbw.grown hgrow4 hbw.size (fun k hk => (hown.lt k hk).1)); (have hc1 := HC1.out _ hb4); (obtain ⟨hc2, hc3⟩ := HC2.out _ hb4)))
                      have hown5 : w4.ownsRow w.heap.size 5 1 v4 (body ++ x).length (Lib.byteCells (body ++ x)) := by
                        have e : (body ++ x).length = body.length + (Lib.byteCells x).length := by simp [Lib.byteCells]
                        have e2 : Lib.byteCells (body ++ x) = Lib.byteCells body ++ Lib.byteCells x := by simp [Lib.byteCells]
                        rw [e, e2]
                        exact hown4
                      have HR5 : Hid (runD (fresh (body ++ x)) (l.drop (t2 + 2 + M + 2)) (t2 + 2 + M + 2) = R) := Lib.hid (by
                        have e := HR4.out
                        rw [HX.out, show t2 + 1 + 1 + M + 1 + 1 = t2 + 2 + M + 2 by omega] at e
                        exact e.symm)
                      go_roundw
                      case rel => exact ⟨t2 + 2 + M + 2, body ++ x, by omega, by go_num, hown5, hb4, by have := HX.out; simp; omega, HR5⟩
                      case measure => simp [intOf]; omega
                    · rw [if_neg h10] at HR4
                      have k10 := ne_nat (n := 10) (by decide) h10
                      go_wp2_with (at_builtin; (refine wpList_pushL rfl _ _ 22 rfl w.heap.size 5 i0 (.int .u8 0) 1 Try.underlying22 hi hz0 hz1 hz2 rfl _ body.length _ rfl hown _ (Lib.byteCells x) rfl hx h8 (by omega) (by omega) hbw.size ?_; intro v4 w4 hown4 hgrow4; (have hb4 := hbw.grown hgrow4 hbw.size (fun k hk => (hown.lt k hk).1)); (have hc1 := HC1.out _ hb4); (obtain ⟨hc2, hc3⟩ := HC2.out _ hb4)))
                      go_ret3
                      exact RQ.bad HR4.out hb4
                · have HR4 : Hid (R = ([], 0, 4)) := Lib.hid (HR3.out.trans (by rw [dec_shut (st := { st with ph := 3, line := 0, size := 0, body := body ++ x }) _ _ _ HLI.out.done rfl, if_neg h13]))
                  have k13 := ne_nat (n := 13) (by decide) h13
                  go_wp2_with (at_builtin; (refine wpList_pushL rfl _ _ 22 rfl w.heap.size 5 i0 (.int .u8 0) 1 Try.underlying22 hi hz0 hz1 hz2 rfl _ body.length _ rfl hown _ (Lib.byteCells x) rfl hx h8 (by omega) (by omega) hbw.size ?_; intro v4 w4 hown4 hgrow4; (have hb4 := hbw.grown hgrow4 hbw.size (fun k hk => (hown.lt k hk).1)); (have hc1 := HC1.out _ hb4)))
                  go_ret3
                  exact RQ.bad HR4.out hb4
end Go.Proofs.Ytggbgpmjfncklaa
