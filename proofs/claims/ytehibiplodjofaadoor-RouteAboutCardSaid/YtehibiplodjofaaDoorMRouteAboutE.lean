/- Texts of this proof, put together: RD29, RB29. -/
import Derived.Test.YtehibiplodjofaaDoorMRouteAboutz
import Derived.Test.YtehibiplodjofaaDoorMRouteAboutD
import Derived.Test.YtehibiplodjofaaDoorMRouteAboutu
section
/- Requests, and bytes, that came in; which requests are large. -/
namespace Go.Proofs.YtehibiplodjofaaDoor
open Go.ChangeShapes Go.WideShapes Go.ChangeAt Go.RowKit Go.Proofs.YtehibiplodjofaaDoorW.PrintWords
set_option linter.unusedVariables false
def IsNums (w : World) (v : Value) : Prop := ∃ (A : Option Addr) (c : Nat) (l : List UInt8), v = .slice A (Pr.numsL l).length c ∧ (Pr.numsL l).length ≤ c ∧ Kd.C (Kd.int .u8) w A (Pr.numsL l).length (Pr.numsL l)
theorem nums_wf {l : List Int} (h : ∀ y ∈ l, (Lit.int .u8 y).wf = true) : ∃ B : List UInt8, l = Pr.numsL B := by
  refine ⟨Lib.bytesOf l, (Pr.nums_bytes ?_).symm⟩
  unfold Pr.isBytes
  rw [List.all_eq_true]
  intro y hy
  have := h y hy
  simp [Lit.wf, IntKind.min, IntKind.max, IntKind.signed, IntKind.bits] at this
  simp
  omega
set_option maxRecDepth 10000 in
theorem open_nums {H : Type} {enc : TypeId × Value → H} {w : World} {base b0 : Nat} {held : Bool} {r : Reach} {v : Value} {d : DataW H} {p : List MemPlace} (hv : Value.okWide Tryd.prog w r b0 24 v) (h : DataW.Trod enc Tryd.prog w base (fun _ => true) held 24 v d p) : IsNums w v := by
  obtain ⟨A, c, xs, h1, h2, h3, _, h4⟩ := open_row Tryd.underlying24 (by kernel_rfl) (opens_int Tryd.underlying5) hv h
  obtain ⟨B, rfl⟩ := nums_wf h4
  exact ⟨A, c, B, h1, h2, h3⟩
end Go.Proofs.YtehibiplodjofaaDoor
end
section
/- stowagelaw29.RouteAbout, by its walk (printed by wip/gen_rB29.py). -/
namespace Go.Proofs.YtehibiplodjofaaDoor
open Go.RowKit Go.Proofs.YtehibiplodjofaaDoorW.PrintWords Go.Proofs.YtehibiplodjofaaDoorW.PrintLast Go.Proofs.YtehibiplodjofaaDoorW.PrintMore
set_option linter.unusedVariables false
set_option linter.unusedSimpArgs false
set_option maxHeartbeats 400000 in
set_option maxRecDepth 100000 in
theorem key_big (s : ByteArray) (w : World) (hs : s.size ≤ 9223372036854775807) : Calls Tryd.prog 13 #[.string s] w fun e w' => e = .returned (.bool (keyB s)) ∧ Below w.heap.size w w' := by
  obtain ⟨w1, c1, hcv, hc1, hb, hsz, hcell⟩ := conv_bytes (P := Tryd.prog) w 9 24 5 s Tryd.underlying9 Tryd.underlying24 Tryd.underlying5
  go_enter Tryd.func13, Tryd.ntmps13
  go_wp2
  go_loop [8] (fun i => ∃ (k : Nat), k ≤ s.size ∧ i = .int .i64 k ∧ Hid (keyGo (s.data.toList.drop k) = keyGo s.data.toList)) (fun i => s.size - (intOf i).toNat)
  case atStart => exact ⟨0, Nat.zero_le _, rfl, Lib.hid (by simp)⟩
  case round =>
    obtain ⟨k, hk, rfl, H⟩ := hrel
    by_cases hlt : k < s.size
    · have hc := hcell k hlt
      obtain ⟨c, hcd, hdr⟩ := next_byte s k hlt
      rw [hcd] at hc
      rw [hdr] at H
      clear hcd hdr hcell hcv
      go_wp2
      all_goals first
        | (go_ret; refine ⟨ret_bool ?_, hb⟩; have h := H.out; simp [keyGo, *] at h; simp [keyB, h]; try omega)
        | (go_round
           case rel => exact ⟨k + 1, by omega, by go_num, Lib.hid (by have h := H.out; rw [← h]; simp only [keyGo]; rw [if_neg (by omega), if_neg (by omega)])⟩
           case measure => simp [intOf]; omega)
    · rw [List.drop_of_length_le (by simp; omega)] at H
      go_wp2
      all_goals (go_ret; refine ⟨ret_bool ?_, hb⟩; have h := H.out; rw [Bool.eq_iff_iff]; simp [keyGo] at h; simp [keyB, h]; try omega)
theorem str_nums (b : List UInt8) : strOfNums (Pr.numsL b) = ⟨b.toArray⟩ := by
  have h : (Pr.numsL b).map (fun n => UInt8.ofNat n.toNat) = b := Pr.nums_of b
  unfold strOfNums
  rw [h]
theorem bes_put (c : CallP) (h : c.kind = 14) : besideP c [] hostL = ({ c with version := ⟨#[]⟩ }, true) ∨ besideP c [] hostL = (c, true) := .inr (by unfold besideP; simp [h])
theorem bes_get (c : CallP) (h : c.kind = 12) : besideP c [] hostL = ({ c with version := ⟨#[]⟩ }, true) ∨ besideP c [] hostL = (c, true) := .inl (by unfold besideP besGet; rw [host_range]; simp [h, besVer, findP, idOk])
theorem bes_head (c : CallP) (h : c.kind = 13) : besideP c [] hostL = ({ c with version := ⟨#[]⟩ }, true) ∨ besideP c [] hostL = (c, true) := .inl (by unfold besideP; simp [h, besVer, findP, idOk])
theorem bes_del (c : CallP) (h : c.kind = 15) : besideP c [] hostL = ({ c with version := ⟨#[]⟩ }, true) ∨ besideP c [] hostL = (c, true) := .inl (by unfold besideP; simp [h, besVer, findP, idOk])
set_option maxHeartbeats 8000000 in
set_option maxRecDepth 20000 in
theorem aboutlaw_walk (B K : ByteArray) (v : Value) (w : World) (hK : K.size ≤ 9223372036854775807) (h : IsNums w v) : Calls Tryd.prog 5 #[.string B, .string K, v] w fun e w' => e = .returned (.bool true) ∧ Below w.heap.size w w' := by
  obtain ⟨A, c, b, rfl, hcb, hC⟩ := h
  have hln : (Pr.numsL b).length = b.length := Pr.nums_len b
  obtain ⟨nb, hnb⟩ : ∃ nb, Pr.numsL b = nb := ⟨_, rfl⟩
  rw [hnb] at hln hcb hC ⊢
  replace hln := Lib.hid hln
  replace hnb := Lib.hid hnb
  go_enter Tryd.func5, Tryd.ntmps5
  go_wp2_with fail
  refine (known_any _).mono ?_
  rintro e w1 ⟨rfl, hB1⟩
  go_wp2_with fail
  refine (bucket_any B _).mono ?_
  rintro e w2 ⟨rfl, hb2⟩
  have hB2 := bstep hB1 hb2 (Nat.le_refl _)
  clear hB1 hb2
  cases hbb : bucketB B
  · clear hbb
    go_wp2
    go_ret
    exact ⟨rfl, hB2⟩
  · have hbs := bucket_bytes hbb
    replace hbb := Lib.hid hbb
    go_wp2_with fail
    refine (key_big K _ hK).mono ?_
    rintro e w3 ⟨rfl, hb3⟩
    have hB3 := bstep hB2 hb3 (Nat.le_refl _)
    clear hB2 hb3
    cases hkb : keyB K
    · clear hkb hbs
      go_wp2
      go_ret
      exact ⟨rfl, hB3⟩
    · have hks : K.size ≤ 120 := by
        have h := hkb
        unfold keyB at h
        simp only [Bool.and_eq_true, decide_eq_true_eq] at h
        exact h.2.2
      replace hkb := Lib.hid hkb
      have g1 : decide (100 < (B.size : Int)) = false := decide_eq_false (by omega)
      have g2 : decide (200 < (K.size : Int)) = false := decide_eq_false (by omega)
      have hBs := hbs.2.1
      clear hbs
      by_cases hl : 1000 < nb.length
      · have g3 : decide (1000 < (nb.length : Int)) = true := decide_eq_true (by omega)
        go_wp2
        go_ret
        exact ⟨rfl, hB3⟩
      · have g3 : decide (1000 < (nb.length : Int)) = false := decide_eq_false (by omega)
        have henc := fun w => pEncode_any K true w (by omega)
        have hpl := penc_le true K.data.toList
        rw [← bs_len] at hpl
        generalize hE : (⟨(pencGo true K.data.toList).toArray⟩ : ByteArray) = E at henc
        have hEs : E.size ≤ 360 := by rw [← hE, mk_size]; omega
        have hEl : E.data.toList = pencGo true K.data.toList := by rw [← hE, mk_list]
        replace hEl := Lib.hid hEl
        clear hE hpl
        have hl' : nb.length ≤ 1000 := by omega
        have s1 : ((⟨#[47]⟩ : ByteArray) ++ B).size = 1 + B.size := by rw [ByteArray.size_append]; rfl
        have s2 : (((⟨#[47]⟩ : ByteArray) ++ B) ++ ⟨#[47]⟩).size = 2 + B.size := by rw [ByteArray.size_append, s1]; show 1 + B.size + 1 = _; omega
        obtain ⟨T, hT⟩ : ∃ T, (((⟨#[47]⟩ : ByteArray) ++ B) ++ ⟨#[47]⟩) ++ E = T := ⟨_, rfl⟩
        have hTs : T.size ≤ 400 := by rw [← hT, ByteArray.size_append, s2]; omega
        have hTl : T.data.toList = 47 :: (B.data.toList ++ 47 :: pencGo true K.data.toList) := by rw [← hT, bs_app, bs_app, bs_app, hEl.out]; simp
        have hUl : (T ++ (⟨#[63, 117, 112, 108, 111, 97, 100, 115]⟩ : ByteArray)).data.toList = 47 :: (B.data.toList ++ 47 :: (pencGo true K.data.toList ++ ([63, 117, 112, 108, 111, 97, 100, 115] : List UInt8))) := by rw [bs_app, hTl]; simp
        have hUs : (T ++ (⟨#[63, 117, 112, 108, 111, 97, 100, 115]⟩ : ByteArray)).size ≤ 420 := by rw [ByteArray.size_append]; show T.size + 8 ≤ 420; omega
        have hsb : (⟨b.toArray⟩ : ByteArray).data.toList = b := mk_list b
        have hbl : b.length = nb.length := hln.out.symm
        have hsz : (⟨b.toArray⟩ : ByteArray).size ≤ 1000000 := by rw [mk_size]; omega
        have a1 := fun (W : World) (hW : Kd.C (Kd.int .u8) W A nb.length nb) => asks_any (⟨#[80, 85, 84]⟩ : ByteArray) T ⟨#[]⟩ ⟨b.toArray⟩ { zcall with kind := 14, bucket := B, key := K } A c nb W (by omega) hsz (by decide) hW hcb
        have h1 := asks_key (⟨#[80, 85, 84]⟩ : ByteArray) T ⟨b.toArray⟩ B K 14 nb hbb.out hkb.out hTl (by decide +kernel) bes_put (by rw [hsb]; exact hnb.out)
        unfold asksB at h1
        rw [h1] at a1
        have a2 := asks_true (⟨#[71, 69, 84]⟩ : ByteArray) T ⟨#[]⟩ ⟨b.toArray⟩ { zcall with kind := 12, bucket := B, key := K } (by omega) hsz (by decide) (asks_key _ T _ B K 12 [] hbb.out hkb.out hTl (by decide +kernel) bes_get rfl)
        have a3 := asks_true (⟨#[72, 69, 65, 68]⟩ : ByteArray) T ⟨#[]⟩ ⟨#[]⟩ { zcall with kind := 13, bucket := B, key := K } (by omega) (by decide) (by decide) (asks_key _ T _ B K 13 [] hbb.out hkb.out hTl (by decide +kernel) bes_head rfl)
        have a4 := asks_true (⟨#[68, 69, 76, 69, 84, 69]⟩ : ByteArray) T ⟨#[]⟩ ⟨#[]⟩ { zcall with kind := 15, bucket := B, key := K } (by omega) (by decide) (by decide) (asks_key _ T _ B K 15 [] hbb.out hkb.out hTl (by decide +kernel) bes_del rfl)
        have a5 := asks_true (⟨#[80, 79, 83, 84]⟩ : ByteArray) (T ++ (⟨#[63, 117, 112, 108, 111, 97, 100, 115]⟩ : ByteArray)) ⟨#[]⟩ ⟨#[]⟩ { zcall with kind := 16, bucket := B, key := K } (by omega) (by decide) (by decide) (asks_uploads _ _ B K hbb.out hkb.out hUl)
        simp only [callV, zcall] at a1 a2 a3 a4 a5
        have hC3 := Kd.C_below hC hB3
        clear h1 hsb hbl hsz hTl hUl hUs hEl hbb hkb hC hln
        have hstr : strOfNums nb = ⟨b.toArray⟩ := by rw [← hnb.out]; exact str_nums b
        generalize hsbb : (⟨b.toArray⟩ : ByteArray) = sb at a1 a2 hstr
        have hcv : ∀ W, Kd.C (Kd.int .u8) W A nb.length nb → (convert 24 9 (.slice A nb.length c)).run Tryd.prog W = .ok (.string sb) W := fun W hW => by
          have := Kd.C_string (P := Tryd.prog) (A := A) (c := c) Tryd.underlying24 Tryd.underlying5 Tryd.underlying9 hW
          rw [hstr] at this
          exact this
        replace hstr := Lib.hid hstr
        go_wp2_with fail
        refine (henc _).mono ?_
        clear henc
        rintro e w4 ⟨rfl, hb4⟩
        have hB4 := bstep hB3 hb4 (Nat.le_refl _)
        have hC4 := Kd.C_below hC3 hb4
        clear hB3 hb4 hC3
        have hcv4 := hcv w4 hC4
        go_upto_region 5 with (fail)
        try rw [hT]
        clear hT s1 s2
        go_wp2_with fail
        refine (a1 _ hC4).mono ?_
        clear a1
        rintro e w5 ⟨rfl, hb5⟩
        have hB5 := bstep hB4 hb5 (Nat.le_refl _)
        have hC5 := Kd.C_below hC4 hb5
        have hcv5 := hcv w5 hC5
        clear hB4 hb5 hC4 hcv4 hcv
        go_wp2_with fail
        refine (a2 _).mono ?_
        clear a2
        rintro e w6 ⟨rfl, hb6⟩
        have hB6 := bstep hB5 hb6 (Nat.le_refl _)
        clear hB5 hb6 hC5 hcv5
        go_wp2_with fail
        refine (a3 _).mono ?_
        clear a3
        rintro e w7 ⟨rfl, hb7⟩
        have hB7 := bstep hB6 hb7 (Nat.le_refl _)
        clear hB6 hb7
        go_wp2_with fail
        refine (a4 _).mono ?_
        clear a4
        rintro e w8 ⟨rfl, hb8⟩
        have hB8 := bstep hB7 hb8 (Nat.le_refl _)
        clear hB7 hb8
        go_wp2_with fail
        refine (a5 _).mono ?_
        clear a5
        rintro e w9 ⟨rfl, hb9⟩
        have hB9 := bstep hB8 hb9 (Nat.le_refl _)
        go_wp2
        go_ret
        exact ⟨rfl, hB9⟩
end Go.Proofs.YtehibiplodjofaaDoor
end
