/- The statement TokenTurned: plain law and walk. -/
import Derived.Test.YtnhkfjgoocbbdaaProg
import Derived.Test.YtnhkfjgoocbbdaaZ21
import Derived.Deep.RegionWith
namespace Go.Proofs.Ytnhkfjgoocbbdaa
open Go.RowKit
set_option linter.unusedVariables false
set_option linter.unusedSimpArgs false
theorem xor_ne (c u : UInt8) (h : u ≠ 0) : c ^^^ u ≠ c := by
  intro e
  apply h
  have : c ^^^ (c ^^^ u) = c ^^^ c := by rw [e]
  rw [← UInt8.xor_assoc, UInt8.xor_self] at this
  simpa using this
theorem madeS_take (a b : List UInt8) : (madeS a b).take ((madeS a b).length - 8) = madeL a b := by
  have h := madeS_len a b
  have h2 := madeL_len a b
  rw [show (madeS a b).length - 8 = (madeL a b).length by omega]
  unfold madeS
  exact List.take_left' rfl
theorem madeS_drop (a b : List UInt8) : (madeS a b).drop ((madeS a b).length - 8) = (hexs (dig (madeL a b))).take 8 := by
  have h := madeS_len a b
  have h2 := madeL_len a b
  rw [show (madeS a b).length - 8 = (madeL a b).length by omega]
  unfold madeS
  exact List.drop_left' rfl
theorem turned_law (a b x y : List UInt8) (k : Nat) (c : UInt8) (hk : k < (madeS a b).length) (hc : c ≠ (madeS a b)[k]) (h : madeS x y = (madeS a b).set k c) :
    madeL a b ≠ madeL x y ∧ (hexs (dig (madeL a b))).take 8 = (hexs (dig (madeL x y))).take 8 := by
  have hl : (madeS x y).length = (madeS a b).length := by rw [h, List.length_set]
  have hne : madeL a b ≠ madeL x y := by
    intro e
    have : madeS a b = madeS x y := by unfold madeS; rw [e]
    rw [h] at this
    have h2 := congrArg (fun l => l[k]?) this
    simp [hk] at h2
    exact hc h2.symm
  refine ⟨hne, ?_⟩
  have t1 := madeS_take a b
  have t2 := madeS_take x y
  have d1 := madeS_drop a b
  have d2 := madeS_drop x y
  rw [hl] at t2 d2
  by_cases hlt : k < (madeS a b).length - 8
  · rw [← d1, ← d2, h, List.drop_set_of_lt hlt]
  · exfalso
    apply hne
    rw [← t1, ← t2, h, List.take_set_of_le (by omega)]
theorem u8_xor (x y : UInt8) : bits .xor .u8 (x.toNat : Int) (y.toNat : Int) = ((x ^^^ y).toNat : Int) := by
  have hx := x.toNat_lt
  have hy := y.toNat_lt
  simp only [bits, BitVec.ofInt_natCast, BitVec.toNat_xor, BitVec.toNat_ofNat, UInt8.toNat_xor]
  rw [Nat.mod_eq_of_lt (show x.toNat < 2 ^ IntKind.u8.bits from hx), Nat.mod_eq_of_lt (show y.toNat < 2 ^ IntKind.u8.bits from hy), IntKind.wrap_u8]
  have := Nat.xor_lt_two_pow (n := 8) hx hy
  omega
theorem pick_any (x : Int) (n : Nat) (w : World) (h0 : 0 < n) (hn : n ≤ 1000000000) (h1 : -9223372036854775808 ≤ x) (h2 : x ≤ 9223372036854775807) :
    Calls Try.prog 16 #[.int .i64 x, .int .i64 (n : Int)] w fun e w' => (∃ k : Nat, k < n ∧ e = .returned (.int .i64 (k : Int))) ∧ w' = w := by
  have hm1 : x.tmod n < n := Int.tmod_lt_of_pos _ (by omega)
  have hm2 : -(n : Int) < x.tmod n := by
    have := Int.neg_tmod x n
    have h := Int.tmod_lt_of_pos (-x) (b := (n : Int)) (by omega)
    omega
  obtain ⟨r, hr⟩ : ∃ r, x.tmod n = r := ⟨_, rfl⟩
  rw [hr] at hm1 hm2
  have hw : IntKind.i64.wrap r = r := IntWalk.i64_in _ (by omega)
  by_cases hneg : r < 0
  · have hw2 : IntKind.i64.wrap (r + n) = r + n := IntWalk.i64_in _ (by omega)
    obtain ⟨k, hk⟩ : ∃ k : Nat, r + n = (k : Int) := ⟨(r + n).toNat, by omega⟩
    go_enter Try.func16, Try.ntmps16
    go_wp2
    all_goals try (exfalso; omega)
    go_ret
    exact ⟨⟨k, by omega, rfl⟩, rfl⟩
  · obtain ⟨k, hk⟩ : ∃ k : Nat, r = (k : Int) := ⟨r.toNat, by omega⟩
    go_enter Try.func16, Try.ntmps16
    go_wp2
    all_goals try (exfalso; omega)
    go_ret
    exact ⟨⟨k, by omega, by first | rfl | (show Ending.returned (.int .i64 r) = _; rw [hk])⟩, rfl⟩
theorem head_any (s : ByteArray) (w : World) (h : 8 ≤ s.size) (hs : s.size ≤ 1000000) :
    Calls Try.prog 18 #[.string s] w fun e w' => e = .returned (.string ⟨(s.data.toList.take (s.size - 8)).toArray⟩) ∧ w' = w := by
  have q := fun W => slice_to (P := Try.prog) 9 Try.underlying9 .i64 s ((s.size : Int) - 8) (s.size - 8) (by omega) (by omega) W
  have hw : IntKind.i64.wrap ((s.size : Int) - 8) = (s.size : Int) - 8 := IntWalk.i64_in _ (by omega)
  go_enter Try.func18, Try.ntmps18
  go_wp2
  go_ret
  refine ⟨ret_str ?_, rfl⟩
  rw [show (max ((s.size : Int) - 8) 0).toNat = s.size - 8 by omega, ext_list]
  simp
def tag8 (s : ByteArray) : ByteArray := ⟨((tagS s.data.toList).data.toList.take 8).toArray⟩
set_option maxRecDepth 10000 in
set_option maxHeartbeats 1000000 in
theorem alike_any (a b : ByteArray) (w : World) (ha : a.size ≤ 100000) (hb : b.size ≤ 100000) :
    Calls Try.prog 17 #[.string a, .string b] w fun e w' => (∃ r : Bool, e = .returned (.bool r) ∧ (r = false → a = b ∨ tag8 a ≠ tag8 b)) ∧ Below w.heap.size w w' := by
  obtain ⟨w1, c1, hcv1, hc1, hb1, hsz1, hcell1⟩ := conv_bytes (P := Try.prog) w 9 32 5 a Try.underlying9 Try.underlying32 Try.underlying5
  have hs1 := conv_src hc1 hcell1
  obtain ⟨X, hX⟩ : ∃ X, tagS a.data.toList = X := ⟨_, rfl⟩
  obtain ⟨Y, hY⟩ : ∃ Y, tagS b.data.toList = Y := ⟨_, rfl⟩
  have hXl : X.size = 32 := by rw [← hX]; unfold tagS; simp [ByteArray.size_mk', hexs_len, dig_len]
  have hYl : Y.size = 32 := by rw [← hY]; unfold tagS; simp [ByteArray.size_mk', hexs_len, dig_len]
  have q1 := fun W => slice_to (P := Try.prog) 9 Try.underlying9 .i64 X 8 8 rfl (by omega) W
  have q2 := fun W => slice_to (P := Try.prog) 9 Try.underlying9 .i64 Y 8 8 rfl (by omega) W
  have e1 : tag8 a = ⟨(X.data.toList.take 8).toArray⟩ := by unfold tag8; rw [hX]
  have e2 : tag8 b = ⟨(Y.data.toList.take 8).toArray⟩ := by unfold tag8; rw [hY]
  rw [← e1] at q1
  rw [← e2] at q2
  have hXi : (X.size : Int) = 32 := by omega
  have hYi : (Y.size : Int) = 32 := by omega
  have HX := Lib.hid hX
  have HY := Lib.hid hY
  obtain ⟨A, hA⟩ : ∃ A, tag8 a = A := ⟨_, rfl⟩
  obtain ⟨B, hB⟩ : ∃ B, tag8 b = B := ⟨_, rfl⟩
  rw [hA] at q1 ⊢
  rw [hB] at q2 ⊢
  clear hX hY e1 e2 hA hB hXl hYl hcell1
  go_enter Try.func17, Try.ntmps17
  go_wp2_with fail
  refine (pTag_any _ a.data.toList _ (by rw [← bs_len]; omega) hs1).mono ?_
  rintro e w2 ⟨rfl, hb2⟩
  rw [HX.out]
  have hB2 := bstep hb1 hb2 (Nat.le_refl _)
  obtain ⟨w3, c3, hcv3, hc3, hb3, hsz3, hcell3⟩ := conv_bytes (P := Try.prog) w2 9 32 5 b Try.underlying9 Try.underlying32 Try.underlying5
  have hs3 := conv_src hc3 hcell3
  have hB3 := bstep hB2 hb3 (Nat.le_refl _)
  clear hcv1 hcell3
  go_wp2_with fail
  refine (pTag_any _ b.data.toList _ (by rw [← bs_len]; omega) hs3).mono ?_
  rintro e w4 ⟨rfl, hb4⟩
  rw [HY.out]
  have hB4 := bstep hB3 hb4 (Nat.le_refl _)
  clear hcv3
  by_cases hab : a = b
  · have k1 : (a.toList == b.toList) = true := by rw [hab]; exact beq_self_eq_true _
    go_wp2
    go_quiet (fail)
    go_wp2
    go_ret
    exact ⟨⟨_, rfl, fun _ => .inl hab⟩, below_drewN hB4 _⟩
  · have k1 : (a.toList == b.toList) = false := by
      rw [bs_toList, bs_toList, Bool.eq_false_iff]
      intro h
      exact hab (bs_ext (by simpa using h))
    by_cases hAB : A = B
    · have k2 : (A.toList == B.toList) = true := by rw [hAB]; exact beq_self_eq_true _
      go_wp2
      go_quiet (fail)
      go_wp2
      go_ret
      exact ⟨⟨_, rfl, fun h => by cases h⟩, below_drewN hB4 _⟩
    · go_wp2
      go_quiet (fail)
      go_wp2
      go_ret
      exact ⟨⟨_, rfl, fun _ => .inr hAB⟩, below_drewN hB4 _⟩
theorem tag8_eq (l : ByteArray) : tag8 l = ⟨((hexs (dig l.data.toList)).take 8).toArray⟩ := by
  unfold tag8 tagS
  simp only
  rw [← hexs_take, List.take_take]
  rfl
/-- '[]byte(s)', and the new row may be written. -/
theorem conv_bytesF {P : Program} (w : World) (src dst e : TypeId) (s : ByteArray) {u : TypeDesc}
    (hs : P.underlying src = some u) (hd : P.underlying dst = some (.slice e)) (he : P.underlying e = some (.int .u8)) :
    ∃ w1 c, (convert src dst (.string s)).run P w = .ok (.slice (some ⟨w.heap.size, 0, none⟩) s.size c) w1 ∧ s.size ≤ c ∧ Below w.heap.size w w1 ∧ w.heap.size < w1.heap.size ∧
      (∀ k, k < s.size → w1.cell? ⟨w.heap.size, k, none⟩ = some (.int .u8 (s.data.toList[k]?.getD 0).toNat)) ∧ ∀ k, k < s.size → w1.frozen? ⟨w.heap.size, k, none⟩ = false := by
  refine ⟨_, _, Lib.run_convert_string_bytes w src dst e s hs hd he, grownCap_ge _ _ _ _, ⟨rfl, rfl, rfl, ?_, fun k hk => Lib.bytesWorld_at_old w e s k hk⟩, ?_, fun k hk => ?_, fun k hk => ?_⟩
  · rw [Lib.bytesWorld_size]; omega
  · rw [Lib.bytesWorld_size]; omega
  · rw [Lib.bytesWorld_cell w e s k hk]; simp [List.getD]
  · unfold World.frozen?
    rw [Lib.bytesWorld_at_new]
    have hc : s.size ≤ (Lib.bytesCells w e s).size := by simp [Lib.bytesCells]
    simp
    omega
/-- What a turned token is: refused, or its head's digest begins as the token's. -/
theorem turned_cases (a b t t' : ByteArray) (k : Nat) (c : UInt8) (ha : a.size ≤ 400) (hb : b.size ≤ 400) (ht : t = ⟨(madeS a.data.toList b.data.toList).toArray⟩) (hk : k < t.size) (ht' : t'.data.toList = t.data.toList.set k c) (hc : c ≠ t.data.toList[k]'(by simpa using hk)) :
    (⟨(t.data.toList.take (t.size - 8)).toArray⟩ : ByteArray) ≠ ⟨(t'.data.toList.take (t'.size - 8)).toArray⟩ ∧ tag8 ⟨(t.data.toList.take (t.size - 8)).toArray⟩ = tag8 ⟨(t'.data.toList.take (t'.size - 8)).toArray⟩ ∨
    readV t' = .tuple #[.string ⟨#[]⟩, .string ⟨#[]⟩, .int .i64 4] := by
  have hsz : t.size = 2 * a.size + 2 * b.size + 10 := by
    have := madeS_len a.data.toList b.data.toList
    rw [ht]
    simp only [ByteArray.size_mk', List.size_toArray, this, bs_len]
  have hsz' : t'.size = t.size := by rw [bs_len, ht', List.length_set, ← bs_len]
  have htl : t.data.toList = madeS a.data.toList b.data.toList := by rw [ht]
  cases hr : readO t'.data.toList with
  | none => exact .inr (readV_none t' (by omega) hr)
  | some q =>
    obtain ⟨x, y⟩ := q
    obtain ⟨h1, h2, h3⟩ := readO_some _ _ _ hr
    left
    have hm := turned_law a.data.toList b.data.toList x y k c (by rw [← htl, ← bs_len]; exact hk) (by simp only [← htl]; exact hc) (by rw [h3, ht', htl])
    have e1 : t.data.toList.take (t.size - 8) = madeL a.data.toList b.data.toList := by rw [bs_len, htl, madeS_take]
    have e2 : t'.data.toList.take (t'.size - 8) = madeL x y := by rw [bs_len, ← h3, madeS_take]
    rw [e1, e2]
    refine ⟨fun h => hm.1 ?_, ?_⟩
    · have := congrArg (fun z : ByteArray => z.data.toList) h
      simpa using this
    · rw [tag8_eq, tag8_eq]
      simp only
      rw [hm.2]
theorem pMakeU_any (a b : ByteArray) (w : World) : Calls Try.prog 8 #[.string a, .string b] w fun e w' => e = .returned (makeV a b) ∧ Below w.heap.size w w' := by
  by_cases h : 400 < a.size ∨ 400 < b.size
  · have hm : makeV a b = .tuple #[.string ⟨#[]⟩, .int .i64 3] := by unfold makeV; rw [if_pos h]
    rw [hm]
    clear hm
    by_cases h1 : 400 < a.size
    · have h1' : 400 < (a.size : Int) := by omega
      go_enter Try.func8, Try.ntmps8
      go_wp2
      all_goals (go_ret2; exact ⟨rfl, Below.refl _ _⟩)
    · have h1' : ¬ 400 < (a.size : Int) := by omega
      have h2' : 400 < (b.size : Int) := by omega
      go_enter Try.func8, Try.ntmps8
      go_wp2
      all_goals (go_ret2; exact ⟨rfl, Below.refl _ _⟩)
  · exact pMake_any a b w (by omega) (by omega)
theorem wf_i64 {n : Int} (h : (Lit.int .i64 n).wf = true) : -9223372036854775808 ≤ n ∧ n ≤ 9223372036854775807 := by
  simp [Lit.wf, IntKind.min, IntKind.max, IntKind.signed, IntKind.bits] at h
  exact h
theorem wf_u8 {n : Int} (h : (Lit.int .u8 n).wf = true) : ∃ u : UInt8, (u.toNat : Int) = n := by
  simp [Lit.wf, IntKind.min, IntKind.max, IntKind.signed, IntKind.bits] at h
  refine ⟨n.toNat.toUInt8, ?_⟩
  simp
  omega
set_option maxRecDepth 10000 in
set_option maxHeartbeats 1000000 in
theorem turned_walk (a b : ByteArray) (p : Int) (u : UInt8) (w : World) (h1 : -9223372036854775808 ≤ p) (h2 : p ≤ 9223372036854775807) :
    Calls Try.prog 6 #[.string a, .string b, .int .i64 p, .int .u8 (u.toNat : Int)] w fun e w' => e = .returned (.bool true) ∧ Below w.heap.size w w' := by
  have hmk := fun W => pMakeU_any a b W
  by_cases hok : a.size ≤ 400 ∧ b.size ≤ 400
  · obtain ⟨ha, hb⟩ := hok
    have ka : ¬ (400 : Int) < a.size := by omega
    have kb : ¬ (400 : Int) < b.size := by omega
    rw [makeV_ok a b ha hb] at hmk
    obtain ⟨t, ht⟩ : ∃ t : ByteArray, (⟨(madeS a.data.toList b.data.toList).toArray⟩ : ByteArray) = t := ⟨_, rfl⟩
    have htl : t.size = 2 * a.size + 2 * b.size + 10 := by
      have := madeS_len a.data.toList b.data.toList
      rw [← ht]
      simp only [ByteArray.size_mk', List.size_toArray, this, bs_len]
    rw [ht] at hmk
    have HT := Lib.hid ht
    clear ht
    by_cases hu : u = 0
    · have ku : (u.toNat : Int) = 0 := by rw [hu]; rfl
      rw [ku]
      clear ku hu
      go_enter Try.func6, Try.ntmps6
      go_wp2_with fail
      refine (known21_any _).mono ?_
      rintro e w1 ⟨rfl, hb1⟩
      go_wp2_with fail
      refine (hmk _).mono ?_
      rintro e w2 ⟨rfl, hb2⟩
      have hB2 := bstep hb1 hb2 (Nat.le_refl _)
      go_wp2_with fail
      go_ret
      exact ⟨rfl, hB2⟩
    · have ku : ¬ (u.toNat : Int) = 0 := fun h => hu (UInt8.toNat_inj.1 (by have : (0 : UInt8).toNat = 0 := rfl; omega))
      have kt : ¬ (t.size : Int) < 10 := by omega
      have ht0 : 10 ≤ t.size := by omega
      have ht1 : t.size ≤ 1610 := by omega
      clear htl
      go_enter Try.func6, Try.ntmps6
      go_wp2_with fail
      refine (known21_any _).mono ?_
      rintro e w1 ⟨rfl, hb1⟩
      go_wp2_with fail
      refine (hmk _).mono ?_
      rintro e w2 ⟨rfl, hb2⟩
      have hB2 := bstep hb1 hb2 (Nat.le_refl _)
      obtain ⟨w3, c3, hcv3, hc3, hb3, hsz3, hcell3⟩ := conv_bytes (P := Try.prog) w2 9 32 5 t Try.underlying9 Try.underlying32 Try.underlying5
      have hs3 := conv_src hc3 hcell3
      have hB3 := bstep hB2 hb3 (Nat.le_refl _)
      clear hcell3
      have hTl : (tagS t.data.toList).size = 32 := by unfold tagS; simp [ByteArray.size_mk', hexs_len, dig_len]
      obtain ⟨X, hX⟩ : ∃ X, tagS t.data.toList = X := ⟨_, rfl⟩
      rw [hX] at hTl
      have hTi : (X.size : Int) = 32 := by omega
      go_wp2_with fail
      refine (pTag_any _ t.data.toList _ (by rw [← bs_len]; omega) hs3).mono ?_
      rintro e w4 ⟨rfl, hb4⟩
      rw [hX]
      have hB4 := bstep hB3 hb4 (Nat.le_refl _)
      obtain ⟨w5, c5, hcv5, hc5, hb5, hsz5, hcell5, hfz5⟩ := conv_bytesF (P := Try.prog) w4 9 32 5 t Try.underlying9 Try.underlying32 Try.underlying5
      have hB5 := bstep hB4 hb5 (Nat.le_refl _)
      clear hcv3 hX hTl
      go_wp2_with fail
      refine (pick_any p t.size _ (by omega) (by omega) h1 h2).mono ?_
      rintro e w6 ⟨⟨k, hk, rfl⟩, rfl⟩
      have hck := hcell5 k hk
      obtain ⟨c, hcd, hdr⟩ := next_byte t k hk
      rw [hcd] at hck
      have hfk := hfz5 k hk
      have hxr := u8_xor c u
      have hxne := xor_ne c u hu
      obtain ⟨d, hd⟩ : ∃ d, c ^^^ u = d := ⟨_, rfl⟩
      rw [hd] at hxr hxne
      clear hd
      have hkl : k < t.data.toList.length := by rw [← bs_len]; exact hk
      have hck2 : c = t.data.toList[k] := by rw [← hcd, List.getElem?_eq_getElem hkl]; rfl
      obtain ⟨t', ht'⟩ := bs_of (t.data.toList.set k d)
      have htl' : t'.size = t.size := by rw [bs_len, ← ht', List.length_set, ← bs_len]
      have hcells : ∀ j (hj : j < t'.data.toList.length), (w6.setCell ⟨w4.heap.size, k, none⟩ (.int .u8 (d.toNat : Int))).cell? ((⟨w4.heap.size, 0, none⟩ : Addr).add j) = some (.int .u8 (t'.data.toList[j].toNat : Int)) := by
        intro j hj
        have hj' : j < t.size := by rw [← htl', bs_len]; exact hj
        have hadd : (⟨w4.heap.size, 0, none⟩ : Addr).add j = ⟨w4.heap.size, j, none⟩ := by unfold Addr.add; split <;> simp_all
        rw [hadd]
        simp only [← ht']
        by_cases e : j = k
        · subst e
          rw [World.cell?_setCell_same' _ _ _ (by rw [hck]; rfl)]
          simp
        · rw [World.cell?_setCell_other _ _ _ _ (by intro h; injection h with _ h2; exact e h2.symm), hcell5 j hj']
          rw [List.getElem_set_ne (by omega), List.getElem?_eq_getElem (show j < t.data.toList.length by rw [← bs_len]; exact hj')]
          rfl
      have hcv6 := run_convert_bytes_back (P := Try.prog) (w6.setCell ⟨w4.heap.size, k, none⟩ (.int .u8 (d.toNat : Int))) 32 9 5 ⟨w4.heap.size, 0, none⟩ c5 t'.data.toList Try.underlying32 Try.underlying5 Try.underlying9 hcells
      rw [← bs_len, htl', ← bs_mk (a := t') rfl] at hcv6
      have hcase := turned_cases a b t t' k d ha hb HT.out.symm hk ht'.symm (by rw [← hck2]; exact hxne)
      have HC := Lib.hid hcase
      have HCells := Lib.hid hcells
      have hB6 : Below w.heap.size w (w6.setCell ⟨w4.heap.size, k, none⟩ (.int .u8 (d.toNat : Int))) := hB5.setCell (p := ⟨w4.heap.size, k, none⟩) hB4.size _
      clear hcase hcells hcell5 hfz5 hdr hcd hck2 hcv5
      obtain ⟨w7, hw7⟩ : ∃ w7, w6.setCell ⟨w4.heap.size, k, none⟩ (.int .u8 (d.toNat : Int)) = w7 := ⟨_, rfl⟩
      rw [hw7] at hcv6 hB6 HCells
      have hcvd := run_convert_bytes_back (P := Try.prog) w7.drew 32 9 5 ⟨w4.heap.size, 0, none⟩ c5 t'.data.toList Try.underlying32 Try.underlying5 Try.underlying9 HCells.out
      rw [← bs_len, htl', ← bs_mk (a := t') rfl] at hcvd
      obtain ⟨hd1, hh1⟩ : ∃ z : ByteArray, (⟨(t.data.toList.take (t.size - 8)).toArray⟩ : ByteArray) = z := ⟨_, rfl⟩
      obtain ⟨hd2, hh2⟩ : ∃ z : ByteArray, (⟨(t'.data.toList.take (t'.size - 8)).toArray⟩ : ByteArray) = z := ⟨_, rfl⟩
      have q1 := fun W => head_any t W (by omega) (by omega)
      have q2 := fun W => head_any t' W (by omega) (by omega)
      rw [hh1] at q1 HC
      rw [hh2] at q2 HC
      have hz1 : hd1.size ≤ 100000 := by rw [← hh1]; simp [ByteArray.size_mk']; omega
      have hz2 : hd2.size ≤ 100000 := by rw [← hh2]; simp [ByteArray.size_mk']; omega
      clear hh1 hh2
      go_wp2_with fail
      go_region_with (first
        | (go_at_call_of 18 t; refine (q1 _).mono ?_; rintro e w8 ⟨rfl, rfl⟩)
        | (go_at_call_of 18 t'; refine (q2 _).mono ?_; rintro e w8 ⟨rfl, rfl⟩)
        | (go_at_call 17; refine (alike_any hd1 hd2 _ hz1 hz2).mono ?_; rintro e w8 ⟨⟨r, rfl, hr⟩, hb8⟩))
      all_goals (
        have hbw8 : Below w.heap.size w w8 := bstep hB6 ⟨hb8.os, hb8.tape, hb8.output, hb8.size, hb8.block⟩ (Nat.le_refl _)
        cases r with
        | true =>
          go_wp2_with fail
          go_ret
          exact ⟨rfl, hbw8⟩
        | false =>
          have hrv : readV t' = .tuple #[.string ⟨#[]⟩, .string ⟨#[]⟩, .int .i64 4] := by
            rcases HC.out with ⟨h3, h4⟩ | h
            · rcases hr rfl with h | h
              · exact absurd h h3
              · exact absurd h4 h
            · exact h
          have hcv8 := run_convert_bytes_back (P := Try.prog) w8 32 9 5 ⟨w4.heap.size, 0, none⟩ c5 t'.data.toList Try.underlying32 Try.underlying5 Try.underlying9 (fun j hj => below_cell hb8 (HCells.out j hj))
          rw [← bs_len, htl', ← bs_mk (a := t') rfl] at hcv8
          have hrf := fun W => refused_any t' W (by omega) hrv
          clear hr hrv hcv6 hcvd q1 q2
          go_wp2_with fail
          refine (hrf _).mono ?_
          rintro e w9 ⟨rfl, hb9⟩
          go_wp2
          go_ret
          exact ⟨rfl, bstep hbw8 hb9 (Nat.le_refl _)⟩)
  · rw [makeV_bad a b hok] at hmk
    clear hok
    go_enter Try.func6, Try.ntmps6
    go_wp2_with fail
    refine (known21_any _).mono ?_
    rintro e w1 ⟨rfl, hb1⟩
    go_wp2_with fail
    refine (hmk _).mono ?_
    rintro e w2 ⟨rfl, hb2⟩
    have hB2 := bstep hb1 hb2 (Nat.le_refl _)
    go_wp2_with fail
    go_ret
    exact ⟨rfl, hB2⟩
end Go.Proofs.Ytnhkfjgoocbbdaa
