/- Texts of this proof, put together: Hh27, Hj27, Cu27. -/
import Derived.Test.YtmgpbcpggnlkkaaGreatDoorMResponseBytesd
import Derived.Test.YtmgpbcpggnlkkaaGreatDoorMResponseBytesh
import Derived.Test.YtmgpbcpggnlkkaaGreatDoorMResponseBytesk
import Derived.Test.YtmgpbcpggnlkkaaGreatDoorMResponseBytesl
import Derived.Lib.SlBytesConst
import Derived.Lib.SmallJoins
section
/- response.head, by its walk, in the print's form. -/
namespace Go.Proofs.YtmgpbcpggnlkkaaGreatDoor
open Go.RowKit Go.Proofs.YtmgpbcpggnlkkaaGreatDoorW.PrintWords Go.Proofs.YtmgpbcpggnlkkaaGreatDoorW.PrintLast Go.Proofs.YtmgpbcpggnlkkaaGreatDoorW.PrintMore
set_option linter.unusedVariables false
set_option linter.unusedSimpArgs false
abbrev SPair := Pr.S51
def pairL (p : SPair) : Bs × Bs := (p.f0.data.toList, p.f1.data.toList)
def BA (l : Bs) : ByteArray := ⟨l.toArray⟩
theorem ba_list (l : Bs) : (BA l).data.toList = l := by simp [BA]
theorem words_f (st : Int) : Pr.response_words.f st = some (BA (wordsL st)) := by
  unfold Pr.response_words.f wordsL BA
  by_cases h0 : st = 200
  · subst h0; rfl
  by_cases h1 : st = 204
  · subst h1; rfl
  by_cases h2 : st = 206
  · subst h2; rfl
  by_cases h3 : st = 400
  · subst h3; rfl
  by_cases h4 : st = 404
  · subst h4; rfl
  by_cases h5 : st = 405
  · subst h5; rfl
  by_cases h6 : st = 409
  · subst h6; rfl
  by_cases h7 : st = 413
  · subst h7; rfl
  by_cases h8 : st = 416
  · subst h8; rfl
  by_cases h9 : st = 503
  · subst h9; rfl
  simp only [if_neg h0, if_neg h1, if_neg h2, if_neg h3, if_neg h4, if_neg h5, if_neg h6, if_neg h7, if_neg h8, if_neg h9]
theorem sts_nat {st : Int} (h : wordsL st ≠ []) : ∃ n : Nat, st = n ∧ 100 ≤ n ∧ n ≤ 999 := by
  have := wordsL_mem h
  unfold stsL at this
  simp only [List.mem_cons, List.not_mem_nil, or_false] at this
  exact ⟨st.toNat, by omega, by omega, by omega⟩
theorem words_len (st : Int) : (wordsL st).length ≤ 30 := by
  unfold wordsL
  repeat' split
  all_goals decide
def hdrs (hs : List SPair) : Bs := hs.flatMap fun p => hdr (pairL p) ++ crlf
theorem hdrs_step (hs : List SPair) (k : Nat) (hk : k < hs.length) : hdrs (hs.drop k) = hdr (pairL hs[k]) ++ crlf ++ hdrs (hs.drop (k + 1)) := by
  unfold hdrs
  rw [List.drop_eq_getElem_cons hk, List.flatMap_cons]
theorem head_form (st : Int) (hs : List SPair) (n : Nat) : headL st (hs.map pairL) n = line0 st ++ crlf ++ hdrs hs ++ lineN n ++ four := by
  unfold headL ends hLines hdrs
  simp [List.flatMap_map, crlf, four]
theorem GM_tab {w wr : World} (h : Pr.GM w) (hb : Below w.heap.size w wr) (B : Nat) (hB : w.heap.size ≤ B) : Lib.TabBelow Tryz.prog B wr "internal/strconv.uint64pow10" .u64 Lib.pow10Tab := by
  obtain ⟨B0, h0, h⟩ := h.tab
  exact fun w' hw => (h.on (hb.mono h0)) w' (hw.mono (Nat.le_trans h0 hB))
theorem rdP (l : List SPair) (j : Nat) (h : j < l.length) : Pr.rd_T51 l (j : Int) = l[j] := by
  unfold Pr.rd_T51
  rw [Int.toNat_natCast, List.getD_eq_getElem?_getD, List.getElem?_eq_getElem h]
  rfl
structure SmallH (hs : List SPair) : Prop where
  len : hs.length ≤ 100
  sz : ∀ p ∈ hs, p.f0.size ≤ 2000 ∧ p.f1.size ≤ 2000
set_option maxHeartbeats 4000000 in
set_option maxRecDepth 10000 in
theorem head_any (st : Int) (A1 : Option Addr) (c1 : Nat) (hs : List SPair) (v2 : Value) (n : Int) (w : World) (hG : Pr.GM w) (hr : Kd.C Pr.k51 w A1 hs.length hs) (hst : wordsL st ≠ []) (hsm : SmallH hs) (hn0 : 0 ≤ n) (hn1 : n ≤ 9223372036854775807) (hv2 : v2.oneCell' = true) :
    Calls Tryz.prog 30 #[.agg #[.int .i64 st, .slice A1 hs.length c1, v2], .int .i64 n] w fun e w' => ∃ v, e = .returned v ∧ w'.ownsRow w.heap.size 5 1 v (headL st (hs.map pairL) n.toNat).length (Lib.byteCells (headL st (hs.map pairL) n.toNat)) ∧ Below w.heap.size w w' := by
  obtain ⟨i0, hi, hz0, hz1, hz2⟩ := info_parts infoU8
  obtain ⟨sn, rfl, hs1, hs2⟩ := sts_nat hst
  have hwl := words_len (sn : Int)
  have kc := fun (C : Array Value) (n c : Nat) => Go.Joins.run_convert_bytes_const_at (P := Tryz.prog) (w.alloc (.cells #[.int .i64 (sn : Int), .slice A1 hs.length c1, v2] 26)) 22 5 C n c (w.heap.size + 1) (by simp) Tryz.underlying22 Tryz.underlying5
  have HG := Lib.hid hG
  clear hG
  go_enter Tryz.func30, Tryz.ntmps30
  go_wp2_with fail
  obtain ⟨W1, hW1⟩ : ∃ W, ((w.alloc (.cells #[.int .i64 (sn : Int), .slice A1 hs.length c1, v2] 26)).alloc (.cells #[.int .u8 72, .int .u8 84, .int .u8 84, .int .u8 80, .int .u8 47, .int .u8 49, .int .u8 46, .int .u8 49, .int .u8 32] 5 (9, 10))) = W := ⟨_, rfl⟩
  have hsz : W1.heap.size = w.heap.size + 2 := by rw [← hW1]; simp
  have hbw : Below w.heap.size w W1 := by rw [← hW1]; exact ((Below.refl _ w).alloc (Nat.le_refl _) _).alloc (by simp) _
  have hq0 : W1.cell? ⟨w.heap.size, 0, none⟩ = some (.int .i64 (sn : Int)) := by rw [← hW1]; simp [World.cell?_alloc_old]
  have hq1 : W1.cell? ⟨w.heap.size, 1, none⟩ = some (.slice A1 hs.length c1) := by rw [← hW1]; simp [World.cell?_alloc_old]
  have h1 := appInt_full sn hs1 (by omega) (w.heap.size + 1) ([72, 84, 84, 80, 47, 49, 46, 49, 32] : List UInt8) W1 (by omega) (fun j x hj => by
    rw [← hW1]
    have hjl := (List.getElem?_eq_some_iff.1 hj).1
    rw [cell_of_row _ _ j _ 5 (9, 10) (by rw [show w.heap.size + 1 = (w.alloc (.cells #[.int .i64 (sn : Int), .slice A1 hs.length c1, v2] 26)).heap.size by simp]; exact heap_alloc_new _ _), ← Array.getElem?_toList]
    exact hj) (by decide) ((GM_tab HG.out hbw w.heap.size (Nat.le_refl _)).here)
  rw [hW1]
  have HW1 := Lib.hid hW1
  clear hW1 kc
  refine h1.mono ?_
  clear h1
  rintro e wa ⟨va, rfl, hown, hb1⟩
  rw [hsz] at hown hb1
  replace hq0 : wa.cell? ⟨w.heap.size, 0, none⟩ = some (.int .i64 (sn : Int)) := (hb1.cell (p := ⟨w.heap.size, 0, none⟩) (by show w.heap.size < w.heap.size + 2; omega)).trans hq0
  have HQ1 := Lib.hid hq1
  clear hq1
  have hsz1 := hb1.size
  rw [hsz] at hsz1
  have HSZ := Lib.hid hsz
  clear hsz
  go_wp2_with fail
  refine (Pr.response_words.calls (sn : Int) (BA (wordsL sn)) _ (words_f _)).mono ?_
  rintro e w' ⟨rfl, ⟨nd, rfl⟩⟩
  replace hown := hown.drewN nd
  replace hb1 := below_drewN hb1 nd
  clear hq0
  replace hsz1 : w.heap.size + 2 ≤ (wa.drewN nd).heap.size := hsz1
  generalize wa.drewN nd = wb at hown hb1 hsz1 ⊢
  have hL : (Lib.decDigits sn).length ≤ 20 := by
    rw [Lib.decDigits_length]
    have := Lib.numDigits_eq sn (by omega) (by omega)
    split at this <;> omega
  have hW : ((⟨#[32]⟩ ++ BA (wordsL sn) ++ ⟨#[13, 10]⟩ : ByteArray)).data.toList = 32 :: wordsL sn ++ crlf := by simp [bs_app, ba_list, crlf]
  have hbs : (BA (wordsL (sn : Int))).size ≤ 30 := by rw [bs_len, ba_list]; exact hwl
  go_wp2_with (at_builtin; (refine wpList_appB rfl _ _ 22 9 rfl 5 i0 Tryz.underlying22 hi hz0 hz1 hz2 (w.heap.size + 2) _ _ rfl hown _ _ rfl (srcG_str Tryz.underlying9 _) (by rw [hW]; simp [crlf]; omega) hsz1 ?_; intro v1 w1 hownN hg; (replace hb1 := hb1.grown hg hsz1 (fun k hk => (hown.lt k hk).1)); (replace hown := hownN); clear hownN hg; (have hq1 := (hb1.cell (p := ⟨w.heap.size, 1, none⟩) (by show w.heap.size < w.heap.size + 2; omega)).trans HQ1.out)))
  rw [hW] at hown
  have hsz2 : w.heap.size + 2 ≤ w1.heap.size := by have := hb1.size; rw [HSZ.out] at this; exact this
  clear hW hbs hq1 hsz1
  have hP : (([72, 84, 84, 80, 47, 49, 46, 49, 32] : List UInt8) ++ Lib.decDigits sn ++ (32 :: wordsL (sn : Int) ++ crlf)) ++ hdrs (hs.drop 0) = line0 (sn : Int) ++ crlf ++ hdrs hs := by
    unfold line0
    rw [show Lib.itoa (sn : Int) = Lib.decDigits sn from Lib.itoa_nonneg sn, List.drop_zero]
    simp
  have hlen0 : (([72, 84, 84, 80, 47, 49, 46, 49, 32] : List UInt8) ++ Lib.decDigits sn ++ (32 :: wordsL (sn : Int) ++ crlf)).length ≤ 100 := by simp [crlf]; omega
  have hhl := hsm.len
  go_loopw [5, 23] (fun v i wr => ∃ (k : Nat) (l : Bs), k ≤ hs.length ∧ i = .int .i64 k ∧ OwnB wr (w.heap.size + 2) 5 v l ∧ Below (w.heap.size + 2) W1 wr ∧ l.length ≤ 100 + 5000 * k ∧ Hid (l ++ hdrs (hs.drop k) = line0 (sn : Int) ++ crlf ++ hdrs hs)) (fun _ i _ => hs.length - (intOf i).toNat)
  case atStart => exact ⟨0, _, Nat.zero_le _, rfl, hown, hb1, by omega, Lib.hid hP⟩
  case round =>
    clear hP hlen0 hown hb1 hsz2
    obtain ⟨k, l, hk, rfl, hown, hb1, hll, H⟩ := hrel
    have hsz1 : w.heap.size + 2 ≤ wr.heap.size := by have := hb1.size; rw [HSZ.out] at this; exact this
    by_cases hlt : k < hs.length
    · obtain ⟨ad, hA, hx0, hx1⟩ := Pr.at_T51 hr (k : Int) (by omega) (by omega)
      rw [Int.toNat_natCast, rdP hs k hlt] at hx0 hx1
      have hpm := hsm.sz hs[k] (List.getElem_mem hlt)
      have hstep := hdrs_step hs k hlt
      have hpd : hdr (pairL hs[k]) = hs[k].f0.data.toList ++ [58, 32] ++ hs[k].f1.data.toList := rfl
      generalize hs[k] = p at hx0 hx1 hpm hstep hpd
      obtain ⟨hp0, hp1⟩ := hpm
      have hbb : Below w.heap.size w wr := hbw.trans (hb1.mono (by omega))
      replace hx0 := (hbb.cell (World.block_lt_of_cell? w _ hx0)).trans hx0
      replace hx1 := (hbb.cell (World.block_lt_of_cell? w _ hx1)).trans hx1
      clear hbb
      subst hA
      have hW : (p.f0 ++ ⟨#[58, 32]⟩ ++ p.f1 ++ ⟨#[13, 10]⟩ : ByteArray).data.toList = hdr (pairL p) ++ crlf := by rw [hpd]; simp [bs_app, crlf]
      have hWl : (hdr (pairL p) ++ crlf).length ≤ 4004 := by rw [hpd]; simp [crlf]; have := bs_len p.f0; have := bs_len p.f1; simp at *; omega
      have H2 : Hid (l ++ (hdr (pairL p) ++ crlf) ++ hdrs (hs.drop (k + 1)) = line0 (sn : Int) ++ crlf ++ hdrs hs) := Lib.hid (by have h := H.out; rw [hstep] at h; simpa using h)
      have HW := Lib.hid hW
      clear hW hstep hpd H
      have hown2 := hown.alloc (.cells #[.string p.f0, .string p.f1] 51)
      have hb2 := hb1.alloc (by omega) (.cells #[.string p.f0, .string p.f1] 51)
      go_wp2_with (at_builtin; (refine wpList_appB rfl _ _ 22 9 rfl 5 i0 Tryz.underlying22 hi hz0 hz1 hz2 (w.heap.size + 2) _ _ rfl hown2 _ _ rfl (srcG_str Tryz.underlying9 _) (by rw [HW.out]; omega) (by simp; omega) ?_; intro v1 w1 hownN hg; (replace hb2 := hb2.grown hg (by simp; omega) (fun k hk => (hown2.lt k hk).1)); (replace hown2 := hownN); clear hownN hg))
      rw [HW.out] at hown2
      clear hown hb1
      go_roundw
      case rel => exact ⟨k + 1, _, by omega, by go_num, hown2, hb2, by rw [List.length_append]; omega, H2⟩
      case measure => simp [intOf]; omega
    · have hkk : k = hs.length := by omega
      subst hkk
      have H2 : Hid (l = line0 (sn : Int) ++ crlf ++ hdrs hs) := Lib.hid (by have h := H.out; rw [List.drop_of_length_le (Nat.le_refl _)] at h; simpa [hdrs] using h)
      clear H
      go_wp2_with (at_builtin; (refine wpList_appB rfl _ _ 22 9 rfl 5 i0 Tryz.underlying22 hi hz0 hz1 hz2 (w.heap.size + 2) _ _ rfl hown _ _ rfl (srcG_str Tryz.underlying9 _) (by simp; omega) hsz1 ?_; intro v1 w1 hownN hg; (replace hb1 := hb1.grown hg hsz1 (fun k hk => (hown.lt k hk).1)); (replace hown := hownN); clear hownN hg))
      obtain ⟨m, rfl⟩ : ∃ m : Nat, n = m := ⟨n.toNat, by omega⟩
      have hbs1 : w.heap.size + 2 ≤ w1.heap.size := by have := hb1.size; rw [HSZ.out] at this; exact this
      have hdl : (Lib.decDigits m).length ≤ 20 := by
        rw [Lib.decDigits_length]
        rcases Nat.eq_zero_or_pos m with h0 | h0
        · subst h0; rw [Lib.nDigits_small (by omega)]; omega
        · have := Lib.numDigits_eq m (by omega) (by omega)
          split at this <;> omega
      have hai := Tryz.strconv_AppendInt_10 (w.heap.size + 2) _ (m : Int) (by omega) (by omega) v1 _ w1 hown.row hbs1 (by simp; omega) (GM_tab HG.out (hbw.trans (hb1.mono (by omega))) _ (by omega))
      rw [Lib.itoa_nonneg] at hai
      refine hai.mono ?_
      clear hai
      rintro e w3 ⟨v3, rfl, hr3, hb3, -⟩
      have hbs3 : w.heap.size + 2 ≤ w3.heap.size := by have := hb3.size; omega
      go_wp2_with (at_builtin; refine Lib.wpList_append_own_string _ rfl _ _ 22 9 rfl (w.heap.size + 2) 5 i0 Tryz.underlying22 Tryz.underlying9 hi hz0 hz1 hz2 _ _ _ rfl hr3 ⟨#[13, 10, 13, 10]⟩ rfl (by unfold maxLen; simp [ByteArray.size_mk']; omega) (by simp [ByteArray.size_mk']; omega) hbs3 ?_)
      intro v4 w4 hr4 hg4 _
      have he : headL (sn : Int) (hs.map pairL) m = (l ++ ([99, 111, 110, 116, 101, 110, 116, 45, 108, 101, 110, 103, 116, 104, 58, 32] : List UInt8)) ++ Lib.decDigits m ++ four := by
        rw [head_form, H2.out]
        unfold lineN cl14
        simp
      have hr5 : w4.ownsRow (w.heap.size + 2) 5 1 v4 (headL (sn : Int) (hs.map pairL) ((m : Int)).toNat).length (Lib.byteCells (headL (sn : Int) (hs.map pairL) ((m : Int)).toNat)) := by
        rw [Int.toNat_natCast, he, bc_app _ four, bc_app _ (Lib.decDigits m), List.length_append, List.length_append, List.length_append, List.append_assoc]
        exact hr4
      have HR5 := Lib.hid hr5
      clear hr4 hr5 he
      have hbf : Below w.heap.size w w4 := (hbw.trans (hb1.mono (by omega))).trans ((hb3.grown hg4 hbs3 (fun k hk => (hr3.lt k hk).1)).mono (by omega))
      go_wp2
      go_ret
      exact ⟨v4, rfl, Go.Joins.ownsRow_le HR5.out (by omega), hbf⟩
end Go.Proofs.YtmgpbcpggnlkkaaGreatDoor
namespace Go.Proofs.YtmgpbcpggnlkkaaGreatDoor.Pr
open Go.RowKit Go.Proofs.YtmgpbcpggnlkkaaGreatDoorW.PrintWords Go.Proofs.YtmgpbcpggnlkkaaGreatDoorW.PrintLast Go.Proofs.YtmgpbcpggnlkkaaGreatDoorW.PrintMore
set_option linter.unusedVariables false
def smallH (hs : List SPair) : Bool := decide (hs.length ≤ 100) && hs.all fun p => decide (p.f0.size ≤ 2000) && decide (p.f1.size ≤ 2000)
theorem smallH_ok {hs : List SPair} (h : smallH hs = true) : SmallH hs := by
  unfold smallH at h
  simp only [Bool.and_eq_true, decide_eq_true_eq, List.all_eq_true] at h
  exact ⟨h.1, fun p hp => h.2 p hp⟩
def numsL (l : Bs) : List Int := l.map fun b => (b.toNat : Int)
def response_head.f (a0_0 : Int) (l0_1 : List SPair) (l0_2 : List Int) (a1 : Int) : Option (List Int) :=
  if wordsL a0_0 ≠ [] ∧ smallH l0_1 = true ∧ 0 ≤ a1 ∧ a1 ≤ 9223372036854775807 then some (numsL (headL a0_0 (l0_1.map pairL) a1.toNat)) else none
theorem cells_of (l : Bs) : Lib.byteCells l = (numsL l).map (Value.int .u8) := by unfold Lib.byteCells numsL; rw [List.map_map]; rfl
theorem cells_flat : ∀ l : Bs, (l.flatMap fun b => [Value.int .u8 (b.toNat : Int)]) = Lib.byteCells l
  | [] => rfl
  | c :: r => by
    rw [List.flatMap_cons, cells_flat r]
    rfl
theorem R_bytes {w : World} {base : Nat} {v : Value} {l : Bs} (h : w.ownsRow base 5 1 v l.length (Lib.byteCells l)) : Kd.R (Kd.int .u8) 5 w base (fun _ => True) v (numsL l) :=
  R_of_own (d := Kd.int .u8) (fun b : UInt8 => (b.toNat : Int)) (fun b => [Value.int .u8 (b.toNat : Int)]) (fun _ => rfl) l (fun _ _ => rfl) (by
    rw [cells_flat]
    exact h)
set_option linter.unusedVariables false
theorem response_head.calls (a0_0 : Int) (A0_1 : Option Addr) (c0_1 : Nat) (l0_1 : List SPair) (A0_2 : Option Addr) (c0_2 : Nat) (l0_2 : List Int) (a1 : Int) (r : List Int) (w : World) (hG : GM w) (hr0_1 : Kd.C k51 w A0_1 l0_1.length l0_1) (hc0_1 : l0_1.length ≤ c0_1) (hr0_2 : Kd.C (Kd.int .u8) w A0_2 l0_2.length l0_2) (hc0_2 : l0_2.length ≤ c0_2) (h : response_head.f a0_0 l0_1 l0_2 a1 = some r) :
    Calls Tryz.prog 30 #[.agg #[.int .i64 a0_0, .slice A0_1 l0_1.length c0_1, .slice A0_2 l0_2.length c0_2], .int .i64 a1] w fun e w' => ∃ v0_ : Value, e = .returned v0_ ∧ Kd.R (Kd.int .u8) 5 w' w.heap.size (fun _ => True) v0_ r ∧ Below w.heap.size w w' := by
  unfold response_head.f at h
  split at h
  · rename_i hs
    cases h
    refine (head_any a0_0 A0_1 c0_1 l0_1 (.slice A0_2 l0_2.length c0_2) a1 w hG hr0_1 hs.1 (smallH_ok hs.2.1) hs.2.2.1 hs.2.2.2 rfl).mono ?_
    rintro e w' ⟨v, rfl, hv, hb⟩
    exact ⟨v, rfl, R_bytes hv, hb⟩
  · cases h
end Go.Proofs.YtmgpbcpggnlkkaaGreatDoor.Pr
end
section
/- response.head, with what stands in its room. -/
namespace Go.Proofs.YtmgpbcpggnlkkaaGreatDoor
open Go.RowKit Go.Proofs.YtmgpbcpggnlkkaaGreatDoorW.PrintWords Go.Proofs.YtmgpbcpggnlkkaaGreatDoorW.PrintLast Go.Proofs.YtmgpbcpggnlkkaaGreatDoorW.PrintMore
set_option linter.unusedVariables false
set_option linter.unusedSimpArgs false
set_option maxHeartbeats 4000000 in
set_option maxRecDepth 10000 in
theorem head_own (st : Int) (A1 : Option Addr) (c1 : Nat) (hs : List SPair) (v2 : Value) (n : Int) (w : World) (hG : Pr.GM w) (hr : Kd.C Pr.k51 w A1 hs.length hs) (hst : wordsL st ≠ []) (hsm : SmallH hs) (hn0 : 0 ≤ n) (hn1 : n ≤ 9223372036854775807) (hn1M : n.toNat < 9223372036854775807) (hv2 : v2.oneCell' = true) :
    Calls Tryz.prog 30 #[.agg #[.int .i64 st, .slice A1 hs.length c1, v2], .int .i64 n] w fun e w' => ∃ v, e = .returned v ∧ OwnB w' w.heap.size 5 v (headL st (hs.map pairL) n.toNat) ∧ Below w.heap.size w w' := by
  obtain ⟨i0, hi, hz0, hz1, hz2⟩ := info_parts infoU8
  obtain ⟨sn, rfl, hs1, hs2⟩ := sts_nat hst
  have hwl := words_len (sn : Int)
  have kc := fun (C : Array Value) (n c : Nat) => Go.Joins.run_convert_bytes_const_at (P := Tryz.prog) (w.alloc (.cells #[.int .i64 (sn : Int), .slice A1 hs.length c1, v2] 26)) 22 5 C n c (w.heap.size + 1) (by simp) Tryz.underlying22 Tryz.underlying5
  have HG := Lib.hid hG
  have HN1 := Lib.hid hn1M
  clear hG
  go_enter Tryz.func30, Tryz.ntmps30
  go_wp2_with fail
  obtain ⟨W1, hW1⟩ : ∃ W, ((w.alloc (.cells #[.int .i64 (sn : Int), .slice A1 hs.length c1, v2] 26)).alloc (.cells #[.int .u8 72, .int .u8 84, .int .u8 84, .int .u8 80, .int .u8 47, .int .u8 49, .int .u8 46, .int .u8 49, .int .u8 32] 5 (9, 10))) = W := ⟨_, rfl⟩
  have hsz : W1.heap.size = w.heap.size + 2 := by rw [← hW1]; simp
  have hbw : Below w.heap.size w W1 := by rw [← hW1]; exact ((Below.refl _ w).alloc (Nat.le_refl _) _).alloc (by simp) _
  have hq0 : W1.cell? ⟨w.heap.size, 0, none⟩ = some (.int .i64 (sn : Int)) := by rw [← hW1]; simp [World.cell?_alloc_old]
  have hq1 : W1.cell? ⟨w.heap.size, 1, none⟩ = some (.slice A1 hs.length c1) := by rw [← hW1]; simp [World.cell?_alloc_old]
  have h1 := appInt_full sn hs1 (by omega) (w.heap.size + 1) ([72, 84, 84, 80, 47, 49, 46, 49, 32] : List UInt8) W1 (by omega) (fun j x hj => by
    rw [← hW1]
    have hjl := (List.getElem?_eq_some_iff.1 hj).1
    rw [cell_of_row _ _ j _ 5 (9, 10) (by rw [show w.heap.size + 1 = (w.alloc (.cells #[.int .i64 (sn : Int), .slice A1 hs.length c1, v2] 26)).heap.size by simp]; exact heap_alloc_new _ _), ← Array.getElem?_toList]
    exact hj) (by decide) ((GM_tab HG.out hbw w.heap.size (Nat.le_refl _)).here)
  rw [hW1]
  have HW1 := Lib.hid hW1
  clear hW1 kc
  refine h1.mono ?_
  clear h1
  rintro e wa ⟨va, rfl, hown, hb1⟩
  rw [hsz] at hown hb1
  replace hq0 : wa.cell? ⟨w.heap.size, 0, none⟩ = some (.int .i64 (sn : Int)) := (hb1.cell (p := ⟨w.heap.size, 0, none⟩) (by show w.heap.size < w.heap.size + 2; omega)).trans hq0
  have HQ1 := Lib.hid hq1
  clear hq1
  have hsz1 := hb1.size
  rw [hsz] at hsz1
  have HSZ := Lib.hid hsz
  clear hsz
  go_wp2_with fail
  refine (Pr.response_words.calls (sn : Int) (BA (wordsL sn)) _ (words_f _)).mono ?_
  rintro e w' ⟨rfl, ⟨nd, rfl⟩⟩
  replace hown := hown.drewN nd
  replace hb1 := below_drewN hb1 nd
  clear hq0
  replace hsz1 : w.heap.size + 2 ≤ (wa.drewN nd).heap.size := hsz1
  generalize wa.drewN nd = wb at hown hb1 hsz1 ⊢
  have hL : (Lib.decDigits sn).length ≤ 20 := by
    rw [Lib.decDigits_length]
    have := Lib.numDigits_eq sn (by omega) (by omega)
    split at this <;> omega
  have hW : ((⟨#[32]⟩ ++ BA (wordsL sn) ++ ⟨#[13, 10]⟩ : ByteArray)).data.toList = 32 :: wordsL sn ++ crlf := by simp [bs_app, ba_list, crlf]
  have hbs : (BA (wordsL (sn : Int))).size ≤ 30 := by rw [bs_len, ba_list]; exact hwl
  go_wp2_with (at_builtin; (refine wpList_appB rfl _ _ 22 9 rfl 5 i0 Tryz.underlying22 hi hz0 hz1 hz2 (w.heap.size + 2) _ _ rfl hown _ _ rfl (srcG_str Tryz.underlying9 _) (by rw [hW]; simp [crlf]; omega) hsz1 ?_; intro v1 w1 hownN hg; (replace hb1 := hb1.grown hg hsz1 (fun k hk => (hown.lt k hk).1)); (replace hown := hownN); clear hownN hg; (have hq1 := (hb1.cell (p := ⟨w.heap.size, 1, none⟩) (by show w.heap.size < w.heap.size + 2; omega)).trans HQ1.out)))
  rw [hW] at hown
  have hsz2 : w.heap.size + 2 ≤ w1.heap.size := by have := hb1.size; rw [HSZ.out] at this; exact this
  clear hW hbs hq1 hsz1
  have hP : (([72, 84, 84, 80, 47, 49, 46, 49, 32] : List UInt8) ++ Lib.decDigits sn ++ (32 :: wordsL (sn : Int) ++ crlf)) ++ hdrs (hs.drop 0) = line0 (sn : Int) ++ crlf ++ hdrs hs := by
    unfold line0
    rw [show Lib.itoa (sn : Int) = Lib.decDigits sn from Lib.itoa_nonneg sn, List.drop_zero]
    simp
  have hlen0 : (([72, 84, 84, 80, 47, 49, 46, 49, 32] : List UInt8) ++ Lib.decDigits sn ++ (32 :: wordsL (sn : Int) ++ crlf)).length ≤ 100 := by simp [crlf]; omega
  have hhl := hsm.len
  go_loopw [5, 23] (fun v i wr => ∃ (k : Nat) (l : Bs), k ≤ hs.length ∧ i = .int .i64 k ∧ OwnB wr (w.heap.size + 2) 5 v l ∧ Below (w.heap.size + 2) W1 wr ∧ l.length ≤ 100 + 5000 * k ∧ Hid (l ++ hdrs (hs.drop k) = line0 (sn : Int) ++ crlf ++ hdrs hs)) (fun _ i _ => hs.length - (intOf i).toNat)
  case atStart => exact ⟨0, _, Nat.zero_le _, rfl, hown, hb1, by omega, Lib.hid hP⟩
  case round =>
    clear hP hlen0 hown hb1 hsz2
    obtain ⟨k, l, hk, rfl, hown, hb1, hll, H⟩ := hrel
    have hsz1 : w.heap.size + 2 ≤ wr.heap.size := by have := hb1.size; rw [HSZ.out] at this; exact this
    by_cases hlt : k < hs.length
    · obtain ⟨ad, hA, hx0, hx1⟩ := Pr.at_T51 hr (k : Int) (by omega) (by omega)
      rw [Int.toNat_natCast, rdP hs k hlt] at hx0 hx1
      have hpm := hsm.sz hs[k] (List.getElem_mem hlt)
      have hstep := hdrs_step hs k hlt
      have hpd : hdr (pairL hs[k]) = hs[k].f0.data.toList ++ [58, 32] ++ hs[k].f1.data.toList := rfl
      generalize hs[k] = p at hx0 hx1 hpm hstep hpd
      obtain ⟨hp0, hp1⟩ := hpm
      have hbb : Below w.heap.size w wr := hbw.trans (hb1.mono (by omega))
      replace hx0 := (hbb.cell (World.block_lt_of_cell? w _ hx0)).trans hx0
      replace hx1 := (hbb.cell (World.block_lt_of_cell? w _ hx1)).trans hx1
      clear hbb
      subst hA
      have hW : (p.f0 ++ ⟨#[58, 32]⟩ ++ p.f1 ++ ⟨#[13, 10]⟩ : ByteArray).data.toList = hdr (pairL p) ++ crlf := by rw [hpd]; simp [bs_app, crlf]
      have hWl : (hdr (pairL p) ++ crlf).length ≤ 4004 := by rw [hpd]; simp [crlf]; have := bs_len p.f0; have := bs_len p.f1; simp at *; omega
      have H2 : Hid (l ++ (hdr (pairL p) ++ crlf) ++ hdrs (hs.drop (k + 1)) = line0 (sn : Int) ++ crlf ++ hdrs hs) := Lib.hid (by have h := H.out; rw [hstep] at h; simpa using h)
      have HW := Lib.hid hW
      clear hW hstep hpd H
      have hown2 := hown.alloc (.cells #[.string p.f0, .string p.f1] 51)
      have hb2 := hb1.alloc (by omega) (.cells #[.string p.f0, .string p.f1] 51)
      go_wp2_with (at_builtin; (refine wpList_appB rfl _ _ 22 9 rfl 5 i0 Tryz.underlying22 hi hz0 hz1 hz2 (w.heap.size + 2) _ _ rfl hown2 _ _ rfl (srcG_str Tryz.underlying9 _) (by rw [HW.out]; omega) (by simp; omega) ?_; intro v1 w1 hownN hg; (replace hb2 := hb2.grown hg (by simp; omega) (fun k hk => (hown2.lt k hk).1)); (replace hown2 := hownN); clear hownN hg))
      rw [HW.out] at hown2
      clear hown hb1
      go_roundw
      case rel => exact ⟨k + 1, _, by omega, by go_num, hown2, hb2, by rw [List.length_append]; omega, H2⟩
      case measure => simp [intOf]; omega
    · have hkk : k = hs.length := by omega
      subst hkk
      have H2 : Hid (l = line0 (sn : Int) ++ crlf ++ hdrs hs) := Lib.hid (by have h := H.out; rw [List.drop_of_length_le (Nat.le_refl _)] at h; simpa [hdrs] using h)
      clear H
      go_wp2_with (at_builtin; (refine wpList_appB rfl _ _ 22 9 rfl 5 i0 Tryz.underlying22 hi hz0 hz1 hz2 (w.heap.size + 2) _ _ rfl hown _ _ rfl (srcG_str Tryz.underlying9 _) (by simp; omega) hsz1 ?_; intro v1 w1 hownN hg; (replace hb1 := hb1.grown hg hsz1 (fun k hk => (hown.lt k hk).1)); (replace hown := hownN); clear hownN hg))
      obtain ⟨m, rfl⟩ : ∃ m : Nat, n = m := ⟨n.toNat, by omega⟩
      have hbs1 : w.heap.size + 2 ≤ w1.heap.size := by have := hb1.size; rw [HSZ.out] at this; exact this
      have hdl : (Lib.decDigits m).length ≤ 20 := by
        rw [Lib.decDigits_length]
        rcases Nat.eq_zero_or_pos m with h0 | h0
        · subst h0; rw [Lib.nDigits_small (by omega)]; omega
        · have := Lib.numDigits_eq m (by omega) (by omega)
          split at this <;> omega
      have hl1 : (l ++ ([99, 111, 110, 116, 101, 110, 116, 45, 108, 101, 110, 103, 116, 104, 58, 32] : List UInt8)).length ≤ 1000000 := by rw [List.length_append]; simp; omega
      have hai := appInt_ownB m (by have := HN1.out; omega) (w.heap.size + 2) v1 _ w1 hbs1 hown (by simp at hl1 ⊢; omega) ((GM_tab HG.out (hbw.trans (hb1.mono (by omega))) w.heap.size (Nat.le_refl _)).here)
      refine hai.mono ?_
      clear hai
      rintro e w3 ⟨v3, rfl, hr3, hb3⟩
      have hbs3 : w.heap.size + 2 ≤ w3.heap.size := by have := hb3.size; omega
      go_wp2_with (at_builtin; refine wpList_appB rfl _ _ 22 9 rfl 5 i0 Tryz.underlying22 hi hz0 hz1 hz2 (w.heap.size + 2) _ _ rfl hr3 _ _ rfl (srcG_str Tryz.underlying9 _) (by simp; omega) hbs3 ?_)
      intro v4 w4 hr4 hg4
      have he : headL (sn : Int) (hs.map pairL) m = (l ++ ([99, 111, 110, 116, 101, 110, 116, 45, 108, 101, 110, 103, 116, 104, 58, 32] : List UInt8)) ++ Lib.decDigits m ++ four := by
        rw [head_form, H2.out]
        unfold lineN cl14
        simp
      have hr5 : OwnB w4 (w.heap.size + 2) 5 v4 (headL (sn : Int) (hs.map pairL) ((m : Int)).toNat) := by
        rw [Int.toNat_natCast, he]
        have e : (l ++ ([99, 111, 110, 116, 101, 110, 116, 45, 108, 101, 110, 103, 116, 104, 58, 32] : List UInt8)) ++ Lib.decDigits m ++ four = l ++ 99 :: 111 :: 110 :: 116 :: 101 :: 110 :: 116 :: 45 :: 108 :: 101 :: 110 :: 103 :: 116 :: 104 :: 58 :: 32 :: (Lib.decDigits m ++ [13, 10, 13, 10]) := by simp [four]
        rw [e]
        exact hr4
      have HR5 := Lib.hid hr5
      have hbf : Below w.heap.size w w4 := (hbw.trans (hb1.mono (by omega))).trans ((hb3.grown hg4 hbs3 (fun k hk => (hr3.lt k hk).1)).mono (by omega))
      clear hr4 hr5 he hr3 hown
      go_wp2
      go_ret
      exact ⟨v4, rfl, HR5.out.le (by omega), hbf⟩
end Go.Proofs.YtmgpbcpggnlkkaaGreatDoor
end
section
/- What response.read calls of Go's library, in short words. -/
namespace Go.Proofs.YtmgpbcpggnlkkaaGreatDoor
open Go.RowKit Go.Lib
set_option linter.unusedVariables false
set_option linter.unusedSimpArgs false
theorem cut_any (s sep : ByteArray) (w : World) (hs : s.size ≤ 1000000) (hG : Pr.GM w) :
    Calls Tryz.prog 39 #[.string s, .string sep] w fun e w' => e = .returned (.tuple #[.string (BA (cut s.data.toList sep.data.toList).1), .string (BA (cut s.data.toList sep.data.toList).2.1), .bool (cut s.data.toList sep.data.toList).2.2]) ∧ ∃ n, w' = w.drewN n := by
  obtain ⟨m, hm⟩ := hG.max
  exact Tryz.strings_Cut s sep m w (by omega) hm
theorem cut_len (s sep : Bs) : (cut s sep).1.length ≤ s.length ∧ (cut s sep).2.1.length ≤ s.length := by
  unfold cut
  split
  · simp only [List.length_take, List.length_drop]
    omega
  · simp
theorem cut27_to (s sep : ByteArray) (V R : Bs) (bo : Bool) (w : World) (h : cut s.data.toList sep.data.toList = (V, R, bo)) (hs : s.size ≤ 1000000) (hG : Pr.GM w) :
    Calls Tryz.prog 39 #[.string s, .string sep] w fun e w' => e = .returned (.tuple #[.string (BA V), .string (BA R), .bool bo]) ∧ ∃ n, w' = w.drewN n := by
  have := cut_any s sep w hs hG
  rw [h] at this
  exact this
theorem cut_ex (s sep : Bs) : ∃ V R bo, cut s sep = (V, R, bo) ∧ V.length ≤ s.length ∧ R.length ≤ s.length := ⟨_, _, _, rfl, cut_len s sep⟩
def AtoiQ (s : ByteArray) (w : World) (e : Ending) (w' : World) : Prop :=
  ∃ ev, e = .returned (.tuple #[.int .i64 (atoiV s.data.toList), ev]) ∧ (((∃ v, atoiAll s.data.toList = .ok v) ∧ ev = .nilIface) ∨ ((∀ v, atoiAll s.data.toList ≠ .ok v) ∧ ∃ t p, ev = .iface t p)) ∧ Below w.heap.size w w'
theorem atoi_any (s : ByteArray) (w : World) (hs : s.size ≤ 1000000) (hG : Pr.GM w) : Calls Tryz.prog 40 #[.string s] w (AtoiQ s w) := by
  cases h : atoiAll s.data.toList with
  | ok v =>
    refine (Tryz.strconv_Atoi_ok s (by omega) v h w).mono ?_
    rintro e w' ⟨rfl, hw⟩
    refine ⟨.nilIface, ?_, .inl ⟨⟨v, h⟩, rfl⟩, ?_⟩
    · unfold atoiV
      rw [h]
    · rcases hw with rfl | ⟨t, rfl⟩
      · exact Below.refl _ _
      · exact ⟨rfl, rfl, rfl, by rw [Lib.bytesWorld_size]; omega, fun k hk => Lib.bytesWorld_at_old w _ t k hk⟩
  | «syntax» =>
    obtain ⟨ev, h1, h2⟩ := hG.syn
    refine (Tryz.strconv_Atoi_syntax s (by omega) h ev w h1 h2).mono ?_
    rintro e w' ⟨N, rfl, _, _, hb⟩
    unfold AtoiQ
    rw [show atoiV s.data.toList = 0 by unfold atoiV; rw [h]]
    exact ⟨_, rfl, .inr ⟨(fun v hv => by rw [h] at hv; cases hv), _, _, rfl⟩, hb⟩
  | range =>
    obtain ⟨ev, h1, h2⟩ := hG.ran
    refine (Tryz.strconv_Atoi_range s (by omega) h ev w h1 h2).mono ?_
    rintro e w' ⟨N, rfl, _, _, hb⟩
    unfold AtoiQ
    rw [show atoiV s.data.toList = atoiSat s.data.toList by unfold atoiV; rw [h]]
    exact ⟨_, rfl, .inr ⟨(fun v hv => by rw [h] at hv; cases hv), _, _, rfl⟩, hb⟩
/-- The same, its number and its error's kind as letters. -/
theorem atoi27_to (s : ByteArray) (n : Int) (ok : Bool) (w : World) (hn : atoiV s.data.toList = n) (hok : (match atoiAll s.data.toList with | .ok _ => true | _ => false) = ok) (hs : s.size ≤ 1000000) (hG : Pr.GM w) :
    Calls Tryz.prog 40 #[.string s] w fun e w' => ∃ ev, e = .returned (.tuple #[.int .i64 n, ev]) ∧ ((ok = true ∧ ev = .nilIface) ∨ (ok = false ∧ ∃ t p, ev = .iface t p)) ∧ Below w.heap.size w w' := by
  refine (atoi_any s w hs hG).mono ?_
  rintro e w' ⟨ev, rfl, hev, hb⟩
  subst hn hok
  refine ⟨ev, rfl, ?_, hb⟩
  rcases hev with ⟨⟨v, hv⟩, rfl⟩ | ⟨hv, h⟩
  · exact .inl ⟨by rw [hv], rfl⟩
  · refine .inr ⟨?_, h⟩
    cases h2 : atoiAll s.data.toList with
    | ok v => exact absurd h2 (hv v)
    | «syntax» => rfl
    | range => rfl
/-! ### the lines of a text -/
theorem split_len (sep : Bs) (hsep : sep ≠ []) : ∀ (n : Nat) (s : Bs), s.length ≤ n → (splitK sep 0 (count s sep) s).length = count s sep + 1 := by
  intro n
  induction n with
  | zero =>
    intro s hs
    have : s = [] := List.eq_nil_of_length_eq_zero (by omega)
    subst this
    have h : index [] sep = -1 := by
      cases sep with
      | nil => exact absurd rfl hsep
      | cons a b => rfl
    rw [count_miss h]
    rfl
  | succ n ih =>
    intro s hs
    rcases index_spec s sep with ⟨h, _⟩ | ⟨i, h, hi, _, _⟩
    · rw [count_miss h]
      rfl
    · rw [count_hit hsep h, Nat.add_comm 1]
      unfold splitK
      rw [if_neg (by rw [h, beq_iff_eq]; omega), h, Int.toNat_natCast, List.length_cons]
      have hr := index_room s sep (by omega)
      have hp : 0 < sep.length := List.length_pos_iff.2 hsep
      rw [ih (s.drop (i + sep.length)) (by rw [List.length_drop]; omega)]
def linesB (t : Bs) : List ByteArray := splitB (BA crlf) 0 (countB (BA (trimSuffix t four)) (BA crlf)) (BA (trimSuffix t four))
theorem linesB_data (t : Bs) : (linesB t).map (·.data.toList) = parts t := by
  unfold linesB parts split
  rw [splitB_data]
  have h : countB (BA (trimSuffix t four)) (BA crlf) = count (trimSuffix t four) crlf := by
    show count (BA (trimSuffix t four)).data.toList (BA crlf).data.toList = _
    rw [ba_list, ba_list]
  rw [h, ba_list, ba_list]
theorem linesB_len (t : Bs) : (linesB t).length = countB (BA (trimSuffix t four)) (BA crlf) + 1 := by
  have h1 := congrArg List.length (linesB_data t)
  rw [List.length_map] at h1
  rw [h1]
  unfold parts split
  have h : countB (BA (trimSuffix t four)) (BA crlf) = count (trimSuffix t four) crlf := by
    show count (BA (trimSuffix t four)).data.toList (BA crlf).data.toList = _
    rw [ba_list, ba_list]
  rw [h]
  exact split_len crlf (by decide) _ _ (Nat.le_refl _)
theorem splitK_le (sep : Bs) : ∀ (k : Nat) (s : Bs), ∀ x ∈ splitK sep 0 k s, x.length ≤ s.length
  | 0, s, x, hx => by
    have : x = s := by simpa [splitK] using hx
    rw [this]; exact Nat.le_refl _
  | k + 1, s, x, hx => by
    unfold splitK at hx
    split at hx
    · have : x = s := by simpa using hx
      rw [this]; exact Nat.le_refl _
    · rcases List.mem_cons.1 hx with rfl | hx
      · rw [List.length_take]; omega
      · have := splitK_le sep k _ x hx
        rw [List.length_drop] at this
        omega
theorem trimSuffix_le (t p : Bs) : (trimSuffix t p).length ≤ t.length := by
  unfold trimSuffix
  split
  · rw [List.length_take]; omega
  · exact Nat.le_refl _
theorem linesB_size (t : Bs) : ∀ x ∈ linesB t, x.size ≤ t.length := by
  intro x hx
  have h : x.data.toList ∈ parts t := by rw [← linesB_data]; exact List.mem_map_of_mem hx
  have h1 := splitK_le crlf _ _ _ h
  have h2 := trimSuffix_le t four
  rw [bs_len]
  omega
theorem lines_any (t : Bs) (w : World) (ht : t.length ≤ 1000000) (hG : Pr.GM w) :
    Calls Tryz.prog 37 #[.string (BA (trimSuffix t four)), .string (⟨#[13, 10]⟩ : ByteArray)] w fun e w' =>
      e = .returned (.slice (some ⟨w.heap.size, 0, none⟩) (linesB t).length (linesB t).length) ∧ w' = w.alloc (.cells ((linesB t).map Value.string).toArray 9) := by
  obtain ⟨m, hm⟩ := hG.max
  have h2 := trimSuffix_le t four
  have := Tryz.strings_Split (BA (trimSuffix t four)) (BA crlf) m w (by rw [bs_len, ba_list]; omega) hm (by rw [bs_len, ba_list]; decide)
  rw [linesB_len]
  exact this
end Go.Proofs.YtmgpbcpggnlkkaaGreatDoor
end
