/- Texts of this proof, put together: Hh27, Cu27, Wg27, Rf27, Rg27, Ri27, PrResponseBytes. -/
import Derived.Test.YtmgpbcpggnlkkaaGreatDoorMResponseReadsd
import Derived.Test.YtmgpbcpggnlkkaaGreatDoorMResponseReadsi
import Derived.Test.YtmgpbcpggnlkkaaGreatDoorMResponseReadsk
import Derived.Test.YtmgpbcpggnlkkaaGreatDoorMResponseReadsl
import Derived.Lib.SlBytesConst
import Derived.Lib.SmallJoins
import Derived.Test.YtmgpbcpggnlkkaaGreatDoorMResponseReadsm
import Derived.Test.YtmgpbcpggnlkkaaGreatDoorMResponseReadsb
section
/- response.head, by its walk, in the print's form. -/
namespace Go.Proofs.YtmgpbcpggnlkkaaGreatDoor
open Go.RowKit Go.Proofs.YtmgpbcpggnlkkaaGreatDoorW.PrintWords Go.Proofs.YtmgpbcpggnlkkaaGreatDoorW.PrintLast Go.Proofs.YtmgpbcpggnlkkaaGreatDoorW.PrintMore
set_option linter.unusedVariables false
set_option linter.unusedSimpArgs false
abbrev SPair := Pr.S51
def pairL (p : SPair) : Bs × Bs := (p.f0.data.toList, p.f1.data.toList)
def BA (l : Bs) : ByteArray := ⟨l.toArray⟩
theorem ba_list (l : Bs) : (BA l).data.toList = l := by simp [BA]
theorem words_f (st : Int) : Pr.response_words.f st = some (BA (wordsL st)) := by
  unfold Pr.response_words.f wordsL BA
  by_cases h0 : st = 200
  · subst h0; rfl
  by_cases h1 : st = 204
  · subst h1; rfl
  by_cases h2 : st = 206
  · subst h2; rfl
  by_cases h3 : st = 400
  · subst h3; rfl
  by_cases h4 : st = 404
  · subst h4; rfl
  by_cases h5 : st = 405
  · subst h5; rfl
  by_cases h6 : st = 409
  · subst h6; rfl
  by_cases h7 : st = 413
  · subst h7; rfl
  by_cases h8 : st = 416
  · subst h8; rfl
  by_cases h9 : st = 503
  · subst h9; rfl
  simp only [if_neg h0, if_neg h1, if_neg h2, if_neg h3, if_neg h4, if_neg h5, if_neg h6, if_neg h7, if_neg h8, if_neg h9]
theorem sts_nat {st : Int} (h : wordsL st ≠ []) : ∃ n : Nat, st = n ∧ 100 ≤ n ∧ n ≤ 999 := by
  have := wordsL_mem h
  unfold stsL at this
  simp only [List.mem_cons, List.not_mem_nil, or_false] at this
  exact ⟨st.toNat, by omega, by omega, by omega⟩
theorem words_len (st : Int) : (wordsL st).length ≤ 30 := by
  unfold wordsL
  repeat' split
  all_goals decide
def hdrs (hs : List SPair) : Bs := hs.flatMap fun p => hdr (pairL p) ++ crlf
theorem hdrs_step (hs : List SPair) (k : Nat) (hk : k < hs.length) : hdrs (hs.drop k) = hdr (pairL hs[k]) ++ crlf ++ hdrs (hs.drop (k + 1)) := by
  unfold hdrs
  rw [List.drop_eq_getElem_cons hk, List.flatMap_cons]
theorem head_form (st : Int) (hs : List SPair) (n : Nat) : headL st (hs.map pairL) n = line0 st ++ crlf ++ hdrs hs ++ lineN n ++ four := by
  unfold headL ends hLines hdrs
  simp [List.flatMap_map, crlf, four]
theorem GM_tab {w wr : World} (h : Pr.GM w) (hb : Below w.heap.size w wr) (B : Nat) (hB : w.heap.size ≤ B) : Lib.TabBelow Tryz.prog B wr "internal/strconv.uint64pow10" .u64 Lib.pow10Tab := by
  obtain ⟨B0, h0, h⟩ := h.tab
  exact fun w' hw => (h.on (hb.mono h0)) w' (hw.mono (Nat.le_trans h0 hB))
theorem rdP (l : List SPair) (j : Nat) (h : j < l.length) : Pr.rd_T51 l (j : Int) = l[j] := by
  unfold Pr.rd_T51
  rw [Int.toNat_natCast, List.getD_eq_getElem?_getD, List.getElem?_eq_getElem h]
  rfl
structure SmallH (hs : List SPair) : Prop where
  len : hs.length ≤ 100
  sz : ∀ p ∈ hs, p.f0.size ≤ 2000 ∧ p.f1.size ≤ 2000
set_option maxHeartbeats 4000000 in
set_option maxRecDepth 10000 in
theorem head_any (st : Int) (A1 : Option Addr) (c1 : Nat) (hs : List SPair) (v2 : Value) (n : Int) (w : World) (hG : Pr.GM w) (hr : Kd.C Pr.k51 w A1 hs.length hs) (hst : wordsL st ≠ []) (hsm : SmallH hs) (hn0 : 0 ≤ n) (hn1 : n ≤ 9223372036854775807) (hv2 : v2.oneCell' = true) :
    Calls Tryz.prog 30 #[.agg #[.int .i64 st, .slice A1 hs.length c1, v2], .int .i64 n] w fun e w' => ∃ v, e = .returned v ∧ w'.ownsRow w.heap.size 5 1 v (headL st (hs.map pairL) n.toNat).length (Lib.byteCells (headL st (hs.map pairL) n.toNat)) ∧ Below w.heap.size w w' := by
  obtain ⟨i0, hi, hz0, hz1, hz2⟩ := info_parts infoU8
  obtain ⟨sn, rfl, hs1, hs2⟩ := sts_nat hst
  have hwl := words_len (sn : Int)
  have kc := fun (C : Array Value) (n c : Nat) => Go.Joins.run_convert_bytes_const_at (P := Tryz.prog) (w.alloc (.cells #[.int .i64 (sn : Int), .slice A1 hs.length c1, v2] 26)) 22 5 C n c (w.heap.size + 1) (by simp) Tryz.underlying22 Tryz.underlying5
  have HG := Lib.hid hG
  clear hG
  go_enter Tryz.func30, Tryz.ntmps30
  go_wp2_with fail
  obtain ⟨W1, hW1⟩ : ∃ W, ((w.alloc (.cells #[.int .i64 (sn : Int), .slice A1 hs.length c1, v2] 26)).alloc (.cells #[.int .u8 72, .int .u8 84, .int .u8 84, .int .u8 80, .int .u8 47, .int .u8 49, .int .u8 46, .int .u8 49, .int .u8 32] 5 (9, 10))) = W := ⟨_, rfl⟩
  have hsz : W1.heap.size = w.heap.size + 2 := by rw [← hW1]; simp
  have hbw : Below w.heap.size w W1 := by rw [← hW1]; exact ((Below.refl _ w).alloc (Nat.le_refl _) _).alloc (by simp) _
  have hq0 : W1.cell? ⟨w.heap.size, 0, none⟩ = some (.int .i64 (sn : Int)) := by rw [← hW1]; simp [World.cell?_alloc_old]
  have hq1 : W1.cell? ⟨w.heap.size, 1, none⟩ = some (.slice A1 hs.length c1) := by rw [← hW1]; simp [World.cell?_alloc_old]
  have h1 := appInt_full sn hs1 (by omega) (w.heap.size + 1) ([72, 84, 84, 80, 47, 49, 46, 49, 32] : List UInt8) W1 (by omega) (fun j x hj => by
    rw [← hW1]
    have hjl := (List.getElem?_eq_some_iff.1 hj).1
    rw [cell_of_row _ _ j _ 5 (9, 10) (by rw [show w.heap.size + 1 = (w.alloc (.cells #[.int .i64 (sn : Int), .slice A1 hs.length c1, v2] 26)).heap.size by simp]; exact heap_alloc_new _ _), ← Array.getElem?_toList]
    exact hj) (by decide) ((GM_tab HG.out hbw w.heap.size (Nat.le_refl _)).here)
  rw [hW1]
  have HW1 := Lib.hid hW1
  clear hW1 kc
  refine h1.mono ?_
  clear h1
  rintro e wa ⟨va, rfl, hown, hb1⟩
  rw [hsz] at hown hb1
  replace hq0 : wa.cell? ⟨w.heap.size, 0, none⟩ = some (.int .i64 (sn : Int)) := (hb1.cell (p := ⟨w.heap.size, 0, none⟩) (by show w.heap.size < w.heap.size + 2; omega)).trans hq0
  have HQ1 := Lib.hid hq1
  clear hq1
  have hsz1 := hb1.size
  rw [hsz] at hsz1
  have HSZ := Lib.hid hsz
  clear hsz
  go_wp2_with fail
  refine (Pr.response_words.calls (sn : Int) (BA (wordsL sn)) _ (words_f _)).mono ?_
  rintro e w' ⟨rfl, ⟨nd, rfl⟩⟩
  replace hown := hown.drewN nd
  replace hb1 := below_drewN hb1 nd
  clear hq0
  replace hsz1 : w.heap.size + 2 ≤ (wa.drewN nd).heap.size := hsz1
  generalize wa.drewN nd = wb at hown hb1 hsz1 ⊢
  have hL : (Lib.decDigits sn).length ≤ 20 := by
    rw [Lib.decDigits_length]
    have := Lib.numDigits_eq sn (by omega) (by omega)
    split at this <;> omega
  have hW : ((⟨#[32]⟩ ++ BA (wordsL sn) ++ ⟨#[13, 10]⟩ : ByteArray)).data.toList = 32 :: wordsL sn ++ crlf := by simp [bs_app, ba_list, crlf]
  have hbs : (BA (wordsL (sn : Int))).size ≤ 30 := by rw [bs_len, ba_list]; exact hwl
  go_wp2_with (at_builtin; (refine wpList_appB rfl _ _ 22 9 rfl 5 i0 Tryz.underlying22 hi hz0 hz1 hz2 (w.heap.size + 2) _ _ rfl hown _ _ rfl (srcG_str Tryz.underlying9 _) (by rw [hW]; simp [crlf]; omega) hsz1 ?_; intro v1 w1 hownN hg; (replace hb1 := hb1.grown hg hsz1 (fun k hk => (hown.lt k hk).1)); (replace hown := hownN); clear hownN hg; (have hq1 := (hb1.cell (p := ⟨w.heap.size, 1, none⟩) (by show w.heap.size < w.heap.size + 2; omega)).trans HQ1.out)))
  rw [hW] at hown
  have hsz2 : w.heap.size + 2 ≤ w1.heap.size := by have := hb1.size; rw [HSZ.out] at this; exact this
  clear hW hbs hq1 hsz1
  have hP : (([72, 84, 84, 80, 47, 49, 46, 49, 32] : List UInt8) ++ Lib.decDigits sn ++ (32 :: wordsL (sn : Int) ++ crlf)) ++ hdrs (hs.drop 0) = line0 (sn : Int) ++ crlf ++ hdrs hs := by
    unfold line0
    rw [show Lib.itoa (sn : Int) = Lib.decDigits sn from Lib.itoa_nonneg sn, List.drop_zero]
    simp
  have hlen0 : (([72, 84, 84, 80, 47, 49, 46, 49, 32] : List UInt8) ++ Lib.decDigits sn ++ (32 :: wordsL (sn : Int) ++ crlf)).length ≤ 100 := by simp [crlf]; omega
  have hhl := hsm.len
  go_loopw [5, 23] (fun v i wr => ∃ (k : Nat) (l : Bs), k ≤ hs.length ∧ i = .int .i64 k ∧ OwnB wr (w.heap.size + 2) 5 v l ∧ Below (w.heap.size + 2) W1 wr ∧ l.length ≤ 100 + 5000 * k ∧ Hid (l ++ hdrs (hs.drop k) = line0 (sn : Int) ++ crlf ++ hdrs hs)) (fun _ i _ => hs.length - (intOf i).toNat)
  case atStart => exact ⟨0, _, Nat.zero_le _, rfl, hown, hb1, by omega, Lib.hid hP⟩
  case round =>
    clear hP hlen0 hown hb1 hsz2
    obtain ⟨k, l, hk, rfl, hown, hb1, hll, H⟩ := hrel
    have hsz1 : w.heap.size + 2 ≤ wr.heap.size := by have := hb1.size; rw [HSZ.out] at this; exact this
    by_cases hlt : k < hs.length
    · obtain ⟨ad, hA, hx0, hx1⟩ := Pr.at_T51 hr (k : Int) (by omega) (by omega)
      rw [Int.toNat_natCast, rdP hs k hlt] at hx0 hx1
      have hpm := hsm.sz hs[k] (List.getElem_mem hlt)
      have hstep := hdrs_step hs k hlt
      have hpd : hdr (pairL hs[k]) = hs[k].f0.data.toList ++ [58, 32] ++ hs[k].f1.data.toList := rfl
      generalize hs[k] = p at hx0 hx1 hpm hstep hpd
      obtain ⟨hp0, hp1⟩ := hpm
      have hbb : Below w.heap.size w wr := hbw.trans (hb1.mono (by omega))
      replace hx0 := (hbb.cell (World.block_lt_of_cell? w _ hx0)).trans hx0
      replace hx1 := (hbb.cell (World.block_lt_of_cell? w _ hx1)).trans hx1
      clear hbb
      subst hA
      have hW : (p.f0 ++ ⟨#[58, 32]⟩ ++ p.f1 ++ ⟨#[13, 10]⟩ : ByteArray).data.toList = hdr (pairL p) ++ crlf := by rw [hpd]; simp [bs_app, crlf]
      have hWl : (hdr (pairL p) ++ crlf).length ≤ 4004 := by rw [hpd]; simp [crlf]; have := bs_len p.f0; have := bs_len p.f1; simp at *; omega
      have H2 : Hid (l ++ (hdr (pairL p) ++ crlf) ++ hdrs (hs.drop (k + 1)) = line0 (sn : Int) ++ crlf ++ hdrs hs) := Lib.hid (by have h := H.out; rw [hstep] at h; simpa using h)
      have HW := Lib.hid hW
      clear hW hstep hpd H
      have hown2 := hown.alloc (.cells #[.string p.f0, .string p.f1] 51)
      have hb2 := hb1.alloc (by omega) (.cells #[.string p.f0, .string p.f1] 51)
      go_wp2_with (at_builtin; (refine wpList_appB rfl _ _ 22 9 rfl 5 i0 Tryz.underlying22 hi hz0 hz1 hz2 (w.heap.size + 2) _ _ rfl hown2 _ _ rfl (srcG_str Tryz.underlying9 _) (by rw [HW.out]; omega) (by simp; omega) ?_; intro v1 w1 hownN hg; (replace hb2 := hb2.grown hg (by simp; omega) (fun k hk => (hown2.lt k hk).1)); (replace hown2 := hownN); clear hownN hg))
      rw [HW.out] at hown2
      clear hown hb1
      go_roundw
      case rel => exact ⟨k + 1, _, by omega, by go_num, hown2, hb2, by rw [List.length_append]; omega, H2⟩
      case measure => simp [intOf]; omega
    · have hkk : k = hs.length := by omega
      subst hkk
      have H2 : Hid (l = line0 (sn : Int) ++ crlf ++ hdrs hs) := Lib.hid (by have h := H.out; rw [List.drop_of_length_le (Nat.le_refl _)] at h; simpa [hdrs] using h)
      clear H
      go_wp2_with (at_builtin; (refine wpList_appB rfl _ _ 22 9 rfl 5 i0 Tryz.underlying22 hi hz0 hz1 hz2 (w.heap.size + 2) _ _ rfl hown _ _ rfl (srcG_str Tryz.underlying9 _) (by simp; omega) hsz1 ?_; intro v1 w1 hownN hg; (replace hb1 := hb1.grown hg hsz1 (fun k hk => (hown.lt k hk).1)); (replace hown := hownN); clear hownN hg))
      obtain ⟨m, rfl⟩ : ∃ m : Nat, n = m := ⟨n.toNat, by omega⟩
      have hbs1 : w.heap.size + 2 ≤ w1.heap.size := by have := hb1.size; rw [HSZ.out] at this; exact this
      have hdl : (Lib.decDigits m).length ≤ 20 := by
        rw [Lib.decDigits_length]
        rcases Nat.eq_zero_or_pos m with h0 | h0
        · subst h0; rw [Lib.nDigits_small (by omega)]; omega
        · have := Lib.numDigits_eq m (by omega) (by omega)
          split at this <;> omega
      have hai := Tryz.strconv_AppendInt_10 (w.heap.size + 2) _ (m : Int) (by omega) (by omega) v1 _ w1 hown.row hbs1 (by simp; omega) (GM_tab HG.out (hbw.trans (hb1.mono (by omega))) _ (by omega))
      rw [Lib.itoa_nonneg] at hai
      refine hai.mono ?_
      clear hai
      rintro e w3 ⟨v3, rfl, hr3, hb3, -⟩
      have hbs3 : w.heap.size + 2 ≤ w3.heap.size := by have := hb3.size; omega
      go_wp2_with (at_builtin; refine Lib.wpList_append_own_string _ rfl _ _ 22 9 rfl (w.heap.size + 2) 5 i0 Tryz.underlying22 Tryz.underlying9 hi hz0 hz1 hz2 _ _ _ rfl hr3 ⟨#[13, 10, 13, 10]⟩ rfl (by unfold maxLen; simp [ByteArray.size_mk']; omega) (by simp [ByteArray.size_mk']; omega) hbs3 ?_)
      intro v4 w4 hr4 hg4 _
      have he : headL (sn : Int) (hs.map pairL) m = (l ++ ([99, 111, 110, 116, 101, 110, 116, 45, 108, 101, 110, 103, 116, 104, 58, 32] : List UInt8)) ++ Lib.decDigits m ++ four := by
        rw [head_form, H2.out]
        unfold lineN cl14
        simp
      have hr5 : w4.ownsRow (w.heap.size + 2) 5 1 v4 (headL (sn : Int) (hs.map pairL) ((m : Int)).toNat).length (Lib.byteCells (headL (sn : Int) (hs.map pairL) ((m : Int)).toNat)) := by
        rw [Int.toNat_natCast, he, bc_app _ four, bc_app _ (Lib.decDigits m), List.length_append, List.length_append, List.length_append, List.append_assoc]
        exact hr4
      have HR5 := Lib.hid hr5
      clear hr4 hr5 he
      have hbf : Below w.heap.size w w4 := (hbw.trans (hb1.mono (by omega))).trans ((hb3.grown hg4 hbs3 (fun k hk => (hr3.lt k hk).1)).mono (by omega))
      go_wp2
      go_ret
      exact ⟨v4, rfl, Go.Joins.ownsRow_le HR5.out (by omega), hbf⟩
end Go.Proofs.YtmgpbcpggnlkkaaGreatDoor
namespace Go.Proofs.YtmgpbcpggnlkkaaGreatDoor.Pr
open Go.RowKit Go.Proofs.YtmgpbcpggnlkkaaGreatDoorW.PrintWords Go.Proofs.YtmgpbcpggnlkkaaGreatDoorW.PrintLast Go.Proofs.YtmgpbcpggnlkkaaGreatDoorW.PrintMore
set_option linter.unusedVariables false
def smallH (hs : List SPair) : Bool := decide (hs.length ≤ 100) && hs.all fun p => decide (p.f0.size ≤ 2000) && decide (p.f1.size ≤ 2000)
theorem smallH_ok {hs : List SPair} (h : smallH hs = true) : SmallH hs := by
  unfold smallH at h
  simp only [Bool.and_eq_true, decide_eq_true_eq, List.all_eq_true] at h
  exact ⟨h.1, fun p hp => h.2 p hp⟩
def numsL (l : Bs) : List Int := l.map fun b => (b.toNat : Int)
def response_head.f (a0_0 : Int) (l0_1 : List SPair) (l0_2 : List Int) (a1 : Int) : Option (List Int) :=
  if wordsL a0_0 ≠ [] ∧ smallH l0_1 = true ∧ 0 ≤ a1 ∧ a1 ≤ 9223372036854775807 then some (numsL (headL a0_0 (l0_1.map pairL) a1.toNat)) else none
theorem cells_of (l : Bs) : Lib.byteCells l = (numsL l).map (Value.int .u8) := by unfold Lib.byteCells numsL; rw [List.map_map]; rfl
theorem cells_flat : ∀ l : Bs, (l.flatMap fun b => [Value.int .u8 (b.toNat : Int)]) = Lib.byteCells l
  | [] => rfl
  | c :: r => by
    rw [List.flatMap_cons, cells_flat r]
    rfl
theorem R_bytes {w : World} {base : Nat} {v : Value} {l : Bs} (h : w.ownsRow base 5 1 v l.length (Lib.byteCells l)) : Kd.R (Kd.int .u8) 5 w base (fun _ => True) v (numsL l) :=
  R_of_own (d := Kd.int .u8) (fun b : UInt8 => (b.toNat : Int)) (fun b => [Value.int .u8 (b.toNat : Int)]) (fun _ => rfl) l (fun _ _ => rfl) (by
    rw [cells_flat]
    exact h)
set_option linter.unusedVariables false
theorem response_head.calls (a0_0 : Int) (A0_1 : Option Addr) (c0_1 : Nat) (l0_1 : List SPair) (A0_2 : Option Addr) (c0_2 : Nat) (l0_2 : List Int) (a1 : Int) (r : List Int) (w : World) (hG : GM w) (hr0_1 : Kd.C k51 w A0_1 l0_1.length l0_1) (hc0_1 : l0_1.length ≤ c0_1) (hr0_2 : Kd.C (Kd.int .u8) w A0_2 l0_2.length l0_2) (hc0_2 : l0_2.length ≤ c0_2) (h : response_head.f a0_0 l0_1 l0_2 a1 = some r) :
    Calls Tryz.prog 30 #[.agg #[.int .i64 a0_0, .slice A0_1 l0_1.length c0_1, .slice A0_2 l0_2.length c0_2], .int .i64 a1] w fun e w' => ∃ v0_ : Value, e = .returned v0_ ∧ Kd.R (Kd.int .u8) 5 w' w.heap.size (fun _ => True) v0_ r ∧ Below w.heap.size w w' := by
  unfold response_head.f at h
  split at h
  · rename_i hs
    cases h
    refine (head_any a0_0 A0_1 c0_1 l0_1 (.slice A0_2 l0_2.length c0_2) a1 w hG hr0_1 hs.1 (smallH_ok hs.2.1) hs.2.2.1 hs.2.2.2 rfl).mono ?_
    rintro e w' ⟨v, rfl, hv, hb⟩
    exact ⟨v, rfl, R_bytes hv, hb⟩
  · cases h
end Go.Proofs.YtmgpbcpggnlkkaaGreatDoor.Pr
end
section
/- What response.read calls of Go's library, in short words. -/
namespace Go.Proofs.YtmgpbcpggnlkkaaGreatDoor
open Go.RowKit Go.Lib
set_option linter.unusedVariables false
set_option linter.unusedSimpArgs false
theorem cut_any (s sep : ByteArray) (w : World) (hs : s.size ≤ 1000000) (hG : Pr.GM w) :
    Calls Tryz.prog 39 #[.string s, .string sep] w fun e w' => e = .returned (.tuple #[.string (BA (cut s.data.toList sep.data.toList).1), .string (BA (cut s.data.toList sep.data.toList).2.1), .bool (cut s.data.toList sep.data.toList).2.2]) ∧ ∃ n, w' = w.drewN n := by
  obtain ⟨m, hm⟩ := hG.max
  exact Tryz.strings_Cut s sep m w (by omega) hm
theorem cut_len (s sep : Bs) : (cut s sep).1.length ≤ s.length ∧ (cut s sep).2.1.length ≤ s.length := by
  unfold cut
  split
  · simp only [List.length_take, List.length_drop]
    omega
  · simp
theorem cut27_to (s sep : ByteArray) (V R : Bs) (bo : Bool) (w : World) (h : cut s.data.toList sep.data.toList = (V, R, bo)) (hs : s.size ≤ 1000000) (hG : Pr.GM w) :
    Calls Tryz.prog 39 #[.string s, .string sep] w fun e w' => e = .returned (.tuple #[.string (BA V), .string (BA R), .bool bo]) ∧ ∃ n, w' = w.drewN n := by
  have := cut_any s sep w hs hG
  rw [h] at this
  exact this
theorem cut_ex (s sep : Bs) : ∃ V R bo, cut s sep = (V, R, bo) ∧ V.length ≤ s.length ∧ R.length ≤ s.length := ⟨_, _, _, rfl, cut_len s sep⟩
def AtoiQ (s : ByteArray) (w : World) (e : Ending) (w' : World) : Prop :=
  ∃ ev, e = .returned (.tuple #[.int .i64 (atoiV s.data.toList), ev]) ∧ (((∃ v, atoiAll s.data.toList = .ok v) ∧ ev = .nilIface) ∨ ((∀ v, atoiAll s.data.toList ≠ .ok v) ∧ ∃ t p, ev = .iface t p)) ∧ Below w.heap.size w w'
theorem atoi_any (s : ByteArray) (w : World) (hs : s.size ≤ 1000000) (hG : Pr.GM w) : Calls Tryz.prog 40 #[.string s] w (AtoiQ s w) := by
  cases h : atoiAll s.data.toList with
  | ok v =>
    refine (Tryz.strconv_Atoi_ok s (by omega) v h w).mono ?_
    rintro e w' ⟨rfl, hw⟩
    refine ⟨.nilIface, ?_, .inl ⟨⟨v, h⟩, rfl⟩, ?_⟩
    · unfold atoiV
      rw [h]
    · rcases hw with rfl | ⟨t, rfl⟩
      · exact Below.refl _ _
      · exact ⟨rfl, rfl, rfl, by rw [Lib.bytesWorld_size]; omega, fun k hk => Lib.bytesWorld_at_old w _ t k hk⟩
  | «syntax» =>
    obtain ⟨ev, h1, h2⟩ := hG.syn
    refine (Tryz.strconv_Atoi_syntax s (by omega) h ev w h1 h2).mono ?_
    rintro e w' ⟨N, rfl, _, _, hb⟩
    unfold AtoiQ
    rw [show atoiV s.data.toList = 0 by unfold atoiV; rw [h]]
    exact ⟨_, rfl, .inr ⟨(fun v hv => by rw [h] at hv; cases hv), _, _, rfl⟩, hb⟩
  | range =>
    obtain ⟨ev, h1, h2⟩ := hG.ran
    refine (Tryz.strconv_Atoi_range s (by omega) h ev w h1 h2).mono ?_
    rintro e w' ⟨N, rfl, _, _, hb⟩
    unfold AtoiQ
    rw [show atoiV s.data.toList = atoiSat s.data.toList by unfold atoiV; rw [h]]
    exact ⟨_, rfl, .inr ⟨(fun v hv => by rw [h] at hv; cases hv), _, _, rfl⟩, hb⟩
/-- The same, its number and its error's kind as letters. -/
theorem atoi27_to (s : ByteArray) (n : Int) (ok : Bool) (w : World) (hn : atoiV s.data.toList = n) (hok : (match atoiAll s.data.toList with | .ok _ => true | _ => false) = ok) (hs : s.size ≤ 1000000) (hG : Pr.GM w) :
    Calls Tryz.prog 40 #[.string s] w fun e w' => ∃ ev, e = .returned (.tuple #[.int .i64 n, ev]) ∧ ((ok = true ∧ ev = .nilIface) ∨ (ok = false ∧ ∃ t p, ev = .iface t p)) ∧ Below w.heap.size w w' := by
  refine (atoi_any s w hs hG).mono ?_
  rintro e w' ⟨ev, rfl, hev, hb⟩
  subst hn hok
  refine ⟨ev, rfl, ?_, hb⟩
  rcases hev with ⟨⟨v, hv⟩, rfl⟩ | ⟨hv, h⟩
  · exact .inl ⟨by rw [hv], rfl⟩
  · refine .inr ⟨?_, h⟩
    cases h2 : atoiAll s.data.toList with
    | ok v => exact absurd h2 (hv v)
    | «syntax» => rfl
    | range => rfl
/-! ### the lines of a text -/
theorem split_len (sep : Bs) (hsep : sep ≠ []) : ∀ (n : Nat) (s : Bs), s.length ≤ n → (splitK sep 0 (count s sep) s).length = count s sep + 1 := by
  intro n
  induction n with
  | zero =>
    intro s hs
    have : s = [] := List.eq_nil_of_length_eq_zero (by omega)
    subst this
    have h : index [] sep = -1 := by
      cases sep with
      | nil => exact absurd rfl hsep
      | cons a b => rfl
    rw [count_miss h]
    rfl
  | succ n ih =>
    intro s hs
    rcases index_spec s sep with ⟨h, _⟩ | ⟨i, h, hi, _, _⟩
    · rw [count_miss h]
      rfl
    · rw [count_hit hsep h, Nat.add_comm 1]
      unfold splitK
      rw [if_neg (by rw [h, beq_iff_eq]; omega), h, Int.toNat_natCast, List.length_cons]
      have hr := index_room s sep (by omega)
      have hp : 0 < sep.length := List.length_pos_iff.2 hsep
      rw [ih (s.drop (i + sep.length)) (by rw [List.length_drop]; omega)]
def linesB (t : Bs) : List ByteArray := splitB (BA crlf) 0 (countB (BA (trimSuffix t four)) (BA crlf)) (BA (trimSuffix t four))
theorem linesB_data (t : Bs) : (linesB t).map (·.data.toList) = parts t := by
  unfold linesB parts split
  rw [splitB_data]
  have h : countB (BA (trimSuffix t four)) (BA crlf) = count (trimSuffix t four) crlf := by
    show count (BA (trimSuffix t four)).data.toList (BA crlf).data.toList = _
    rw [ba_list, ba_list]
  rw [h, ba_list, ba_list]
theorem linesB_len (t : Bs) : (linesB t).length = countB (BA (trimSuffix t four)) (BA crlf) + 1 := by
  have h1 := congrArg List.length (linesB_data t)
  rw [List.length_map] at h1
  rw [h1]
  unfold parts split
  have h : countB (BA (trimSuffix t four)) (BA crlf) = count (trimSuffix t four) crlf := by
    show count (BA (trimSuffix t four)).data.toList (BA crlf).data.toList = _
    rw [ba_list, ba_list]
  rw [h]
  exact split_len crlf (by decide) _ _ (Nat.le_refl _)
theorem splitK_le (sep : Bs) : ∀ (k : Nat) (s : Bs), ∀ x ∈ splitK sep 0 k s, x.length ≤ s.length
  | 0, s, x, hx => by
    have : x = s := by simpa [splitK] using hx
    rw [this]; exact Nat.le_refl _
  | k + 1, s, x, hx => by
    unfold splitK at hx
    split at hx
    · have : x = s := by simpa using hx
      rw [this]; exact Nat.le_refl _
    · rcases List.mem_cons.1 hx with rfl | hx
      · rw [List.length_take]; omega
      · have := splitK_le sep k _ x hx
        rw [List.length_drop] at this
        omega
theorem trimSuffix_le (t p : Bs) : (trimSuffix t p).length ≤ t.length := by
  unfold trimSuffix
  split
  · rw [List.length_take]; omega
  · exact Nat.le_refl _
theorem linesB_size (t : Bs) : ∀ x ∈ linesB t, x.size ≤ t.length := by
  intro x hx
  have h : x.data.toList ∈ parts t := by rw [← linesB_data]; exact List.mem_map_of_mem hx
  have h1 := splitK_le crlf _ _ _ h
  have h2 := trimSuffix_le t four
  rw [bs_len]
  omega
theorem lines_any (t : Bs) (w : World) (ht : t.length ≤ 1000000) (hG : Pr.GM w) :
    Calls Tryz.prog 37 #[.string (BA (trimSuffix t four)), .string (⟨#[13, 10]⟩ : ByteArray)] w fun e w' =>
      e = .returned (.slice (some ⟨w.heap.size, 0, none⟩) (linesB t).length (linesB t).length) ∧ w' = w.alloc (.cells ((linesB t).map Value.string).toArray 9) := by
  obtain ⟨m, hm⟩ := hG.max
  have h2 := trimSuffix_le t four
  have := Tryz.strings_Split (BA (trimSuffix t four)) (BA crlf) m w (by rw [bs_len, ba_list]; omega) hm (by rw [bs_len, ba_list]; decide)
  rw [linesB_len]
  exact this
end Go.Proofs.YtmgpbcpggnlkkaaGreatDoor
end
section
/- response.wrong: what its printed form answers. -/
namespace Go.Proofs.YtmgpbcpggnlkkaaGreatDoor
open Go.RowKit Go.Proofs.YtmgpbcpggnlkkaaGreatDoorW.PrintWords Go.Proofs.YtmgpbcpggnlkkaaGreatDoorW.PrintLast Go.Proofs.YtmgpbcpggnlkkaaGreatDoorW.PrintMore
set_option linter.unusedVariables false
set_option linter.unusedSimpArgs false
theorem wrap_up (j n : Nat) (h : j < n) (hn : n ≤ 1000000) : wrap64 ((j : Int) + 1) = ((j + 1 : Nat) : Int) := by unfold wrap64; omega
theorem wrong_l0 (l : List SPair) (hl : l.length ≤ 1000000) (hsz : ∀ p ∈ l, p.f0.size ≤ 1000000 ∧ p.f1.size ≤ 1000000) : ∀ (d k j : Nat), j + d = l.length → d + 1 ≤ k →
    Pr.response_wrong.l0 k l (l.length : Int) (j : Int) = some (if ((l.drop j).map pairL).all mayP then 0 else 4) := by
  intro d
  induction d with
  | zero =>
    intro k j hj hk
    obtain ⟨k, rfl⟩ : ∃ n, k = n + 1 := ⟨k - 1, by omega⟩
    unfold Pr.response_wrong.l0
    rw [if_neg (by omega), List.drop_of_length_le (by omega)]
    rfl
  | succ d ih =>
    intro k j hj hk
    obtain ⟨k, rfl⟩ : ∃ n, k = n + 1 := ⟨k - 1, by omega⟩
    have hjl : j < l.length := by omega
    have hs := hsz l[j] (List.getElem_mem hjl)
    have hm : Pr.response_may.f l[j].f0 l[j].f1 = some (mayP (pairL l[j])) := by
      unfold Pr.response_may.f
      rw [if_pos hs]
      rfl
    unfold Pr.response_wrong.l0
    rw [if_pos (by omega), if_pos (by omega), if_pos (by omega), rdP l j hjl, hm, Option.bind_some, List.drop_eq_getElem_cons hjl, List.map_cons, List.all_cons]
    cases hc : mayP (pairL l[j]) with
    | true => rw [if_pos rfl, wrap_up j l.length hjl hl, ih k (j + 1) (by omega) (by omega), Bool.true_and]
    | false => simp
theorem wrong_f (st : Int) (l : List SPair) (b : List Int) (hl : l.length ≤ 1000000) (hsz : ∀ p ∈ l, p.f0.size ≤ 1000000 ∧ p.f1.size ≤ 1000000) (k : Nat) (hk : l.length + 1 ≤ k) : Pr.response_wrong.f k st l b = some (wrongL st (l.map pairL)) := by
  unfold Pr.response_wrong.f wrongL
  rw [words_f, Option.bind_some, bs_toList, ba_list]
  by_cases h1 : wordsL st = []
  · rw [if_pos h1, if_pos h1]
  · rw [if_neg h1, if_neg h1, List.length_map]
    by_cases h2 : 32 < l.length
    · rw [if_pos (by omega), if_pos h2]
    · rw [if_neg (by omega), if_neg h2]
      exact wrong_l0 l hl hsz l.length k 0 (by omega) (by omega)
theorem pair_back (p : Bs × Bs) : pairL ⟨BA p.1, BA p.2⟩ = p := by
  unfold pairL
  simp [ba_list]
end Go.Proofs.YtmgpbcpggnlkkaaGreatDoor
end
section
/- The reference of chapter 27: what its printed functions answer (part 1: texts, numbers, lines). -/
namespace Go.Proofs.YtmgpbcpggnlkkaaGreatDoor
open Go.RowKit Go.Lib Go.Proofs.YtmgpbcpggnlkkaaGreatDoorW.PrintWords Go.Proofs.YtmgpbcpggnlkkaaGreatDoorW.PrintLast Go.Proofs.YtmgpbcpggnlkkaaGreatDoorW.PrintMore
set_option linter.unusedVariables false
set_option linter.unusedSimpArgs false
theorem ba_size (l : Bs) : (BA l).size = l.length := by rw [bs_len, ba_list]
theorem ba_toList (l : Bs) : (BA l).toList = l := by rw [bs_toList, ba_list]
theorem ba_app (a b : Bs) : BA a ++ BA b = BA (a ++ b) := by
  have h : (BA a ++ BA b).data.toList = a ++ b := by rw [bs_app, ba_list, ba_list]
  exact bs_mk h
theorem ba_ext (l : Bs) (i j : Nat) : (BA l).extract i j = BA ((l.take j).drop i) := by
  have h : ((BA l).extract i j).data.toList = (l.take j).drop i := by
    rw [List.drop_take]
    simp [BA]
  exact bs_mk h
theorem ba_bt (l : Bs) (j : Nat) (h : j < l.length) : Go.Proofs.YtmgpbcpggnlkkaaGreatDoorW.PrintWords.bt (BA l) (j : Int) = ((l[j]).toNat : Int) := by
  have hs : j < (BA l).size := by rw [ba_size]; exact h
  have e : Go.Proofs.YtmgpbcpggnlkkaaGreatDoorW.PrintWords.bt (BA l) (j : Int) = (((BA l)[j]'hs).toNat : Int) := by
    unfold Go.Proofs.YtmgpbcpggnlkkaaGreatDoorW.PrintWords.bt
    simp [hs]
  rw [e]
  rfl
theorem wup (j n : Nat) (h : j ≤ n) (hn : n ≤ 1000000000) : wrap64 ((j : Int) + 1) = ((j + 1 : Nat) : Int) := by unfold wrap64; omega
theorem wadd (j m n : Nat) (h : j ≤ n) (hn : n ≤ 1000000000) (hm : m ≤ 1000000000) : wrap64 ((j : Int) + (m : Int)) = ((j + m : Nat) : Int) := by unfold wrap64; omega
theorem wdown (j n : Nat) (h : j ≤ n) (h1 : 1 ≤ j) (hn : n ≤ 1000000000) : wrap64 ((j : Int) - 1) = ((j - 1 : Nat) : Int) := by unfold wrap64; omega
/-- A text's first place in another one, and what stands ahead of it and behind it. -/
def afterP (s sub : Bs) : Bs × Bs × Bool := if index s sub < 0 then ([], [], false) else (s.take (index s sub).toNat, s.drop ((index s sub).toNat + sub.length), true)
def afterB (r : Bs × Bs × Bool) : ByteArray × ByteArray × Bool := (BA r.1, BA r.2.1, r.2.2)
theorem isPre_take (sub l : Bs) : sub.isPrefixOf l = true ↔ l.take sub.length = sub ∧ sub.length ≤ l.length := by
  rw [List.isPrefixOf_iff_prefix]
  constructor
  · rintro ⟨t, rfl⟩
    simp
  · rintro ⟨h, _⟩
    exact ⟨l.drop sub.length, by
      have := List.take_append_drop sub.length l
      rw [h] at this
      exact this⟩
theorem after_l0 (s sub : Bs) (hs : s.length ≤ 1000000) (hb : sub.length ≤ 1000) (h1 : 1 ≤ sub.length) : ∀ (d k j : Nat), j + d = s.length → d + 1 ≤ k →
    Pr.stowageref27_after.l0 k (BA s) (BA sub) (j : Int) = some (if index (s.drop j) sub < 0 then (BA [], BA [], false) else (BA (s.take (j + (index (s.drop j) sub).toNat)), BA (s.drop (j + (index (s.drop j) sub).toNat + sub.length)), true)) := by
  intro d
  induction d with
  | zero =>
    intro k j hj hk
    obtain ⟨k, rfl⟩ : ∃ n, k = n + 1 := ⟨k - 1, by omega⟩
    simp only [Pr.stowageref27_after.l0]
    rw [ba_size, ba_size, wadd j sub.length s.length (by omega) (by omega) (by omega), if_neg (by omega), List.drop_of_length_le (by omega)]
    cases sub with
    | nil => simp at h1
    | cons c r => rfl
  | succ d ih =>
    intro k j hj hk
    obtain ⟨k, rfl⟩ : ∃ n, k = n + 1 := ⟨k - 1, by omega⟩
    simp only [Pr.stowageref27_after.l0]
    rw [ba_size, ba_size, wadd j sub.length s.length (by omega) (by omega) (by omega)]
    have hdr : s.drop j = s[j] :: s.drop (j + 1) := List.drop_eq_getElem_cons (by omega)
    have hix : index (s.drop j) sub = if sub.isPrefixOf (s.drop j) then 0 else if index (s.drop (j + 1)) sub == -1 then -1 else index (s.drop (j + 1)) sub + 1 := by
      rw [hdr]
      rfl
    by_cases hr : j + sub.length ≤ s.length
    · rw [if_pos (by omega), if_pos (by omega), if_pos (by omega), Int.toNat_natCast, Int.toNat_natCast, ba_ext, ba_toList, ba_toList]
      have hsl : (s.take (j + sub.length)).drop j = (s.drop j).take sub.length := by rw [List.drop_take]; congr 1; omega
      rw [hsl]
      by_cases hp : (s.drop j).take sub.length = sub
      · have hpre : sub.isPrefixOf (s.drop j) = true := (isPre_take _ _).2 ⟨hp, by rw [List.length_drop]; omega⟩
        rw [if_pos hp, if_pos (by omega), if_pos (by omega), hix, if_pos hpre, if_neg (by decide), ba_ext, ba_ext]
        simp
      · have hpre : ¬ sub.isPrefixOf (s.drop j) = true := fun h => hp ((isPre_take _ _).1 h).1
        rw [if_neg hp, wup j s.length (by omega) (by omega), ih k (j + 1) (by omega) (by omega), hix, if_neg hpre]
        have hcs := index_ge (s.drop (j + 1)) sub
        by_cases hm : index (s.drop (j + 1)) sub = -1
        · rw [hm]
          rfl
        · have h0 : ¬ index (s.drop (j + 1)) sub < 0 := by omega
          have h2 : (index (s.drop (j + 1)) sub == -1) = false := beq_eq_false_iff_ne.2 hm
          rw [if_neg h0, h2, if_neg (by decide : ¬ (false = true)), if_neg (by omega)]
          have e1 : j + 1 + (index (s.drop (j + 1)) sub).toNat = j + (index (s.drop (j + 1)) sub + 1).toNat := by omega
          rw [e1]
    · rw [if_neg (by omega)]
      have hnone : index (s.drop j) sub = -1 := index_past (i := 0) (fun h => by rw [h] at h1; simp at h1) (fun j hj => absurd hj (Nat.not_lt_zero j)) (by rw [List.length_drop]; omega)
      rw [hnone]
      rfl
theorem after_f (s sub : Bs) (hs : s.length ≤ 1000000) (hb : sub.length ≤ 1000) (h1 : 1 ≤ sub.length) (k : Nat) (hk : s.length + 1 ≤ k) : Pr.stowageref27_after.f k (BA s) (BA sub) = some (afterB (afterP s sub)) := by
  have h := after_l0 s sub hs hb h1 s.length k 0 (by omega) hk
  unfold Pr.stowageref27_after.f
  rw [show (0 : Int) = ((0 : Nat) : Int) from rfl, h, List.drop_zero]
  unfold afterB afterP
  split
  · rfl
  · simp
/-- The lines of a text: 'cur' is what stands since the last end, 'p' the byte ahead. -/
def lnsP : UInt8 → Bs → Bs → List Bs
  | _, _, [] => []
  | p, cur, c :: r => if p = 13 ∧ c = 10 then cur.dropLast :: lnsP c [] r else lnsP c (cur ++ [c]) r
theorem lnsP_nil (p : UInt8) (cur : Bs) : lnsP p cur [] = [] := rfl
theorem lnsP_cons (p : UInt8) (cur : Bs) (c : UInt8) (r : Bs) : lnsP p cur (c :: r) = if p = 13 ∧ c = 10 then cur.dropLast :: lnsP c [] r else lnsP c (cur ++ [c]) r := rfl
theorem lnsP_line : ∀ (l : Bs) (p : UInt8) (cur rest : Bs), p ≠ 13 → (∀ c ∈ l, c ≠ 13) → lnsP p cur (l ++ crlf ++ rest) = (cur ++ l) :: lnsP 10 [] rest
  | [], p, cur, rest, hp, _ => by
    show lnsP p cur (13 :: 10 :: rest) = _
    rw [lnsP_cons, if_neg (fun h => hp h.1), lnsP_cons, if_pos ⟨rfl, rfl⟩]
    simp
  | c :: l, p, cur, rest, hp, h => by
    show lnsP p cur (c :: (l ++ crlf ++ rest)) = _
    rw [lnsP_cons, if_neg (fun h => hp h.1), lnsP_line l c (cur ++ [c]) rest (h c List.mem_cons_self) (fun x hx => h x (List.mem_cons_of_mem _ hx))]
    simp
theorem lnsP_ends : ∀ (ls : List Bs), (∀ l ∈ ls, ∀ c ∈ l, c ≠ 13) → lnsP 10 [] (ends ls) = ls
  | [], _ => rfl
  | l :: r, h => by
    have ih := lnsP_ends r (fun x hx => h x (List.mem_cons_of_mem _ hx))
    show lnsP 10 [] (l ++ crlf ++ ends r) = _
    rw [lnsP_line l 10 [] _ (by decide) (h l List.mem_cons_self), ih]
    rfl
theorem lnsP_len : ∀ (s : Bs) (p : UInt8) (cur : Bs), (lnsP p cur s).length ≤ s.length ∧ ∀ l ∈ lnsP p cur s, l.length ≤ cur.length + s.length
  | [], p, cur => by simp [lnsP]
  | c :: r, p, cur => by
    rw [lnsP_cons]
    split
    · obtain ⟨h1, h2⟩ := lnsP_len r c []
      refine ⟨by simp; omega, fun l hl => ?_⟩
      rcases List.mem_cons.1 hl with rfl | hl
      · simp; omega
      · have := h2 l hl
        simp at this ⊢
        omega
    · obtain ⟨h1, h2⟩ := lnsP_len r c (cur ++ [c])
      refine ⟨by simp; omega, fun l hl => ?_⟩
      have := h2 l hl
      simp at this ⊢
      omega
theorem lines_l0 (s : Bs) (hs : s.length ≤ 1000000) : ∀ (d k i frm : Nat) (acc : List ByteArray), i + d = s.length → 1 ≤ i → d + 1 ≤ k → frm ≤ i → (frm = i → s[i - 1]? ≠ some 13) → acc.length ≤ i →
    Pr.stowageref27_lines.l0 k (BA s) acc (frm : Int) (i : Int) = some (acc ++ (lnsP (s.getD (i - 1) 0) ((s.take i).drop frm) (s.drop i)).map BA) := by
  intro d
  induction d with
  | zero =>
    intro k i frm acc hi h1 hk hf hf2 ha
    obtain ⟨k, rfl⟩ : ∃ n, k = n + 1 := ⟨k - 1, by omega⟩
    simp only [Pr.stowageref27_lines.l0]
    have e : s.drop i = [] := List.drop_of_length_le (by omega)
    rw [ba_size, if_neg (by omega), e, lnsP_nil]
    simp
  | succ d ih =>
    intro k i frm acc hi h1 hk hf hf2 ha
    obtain ⟨k, rfl⟩ : ∃ n, k = n + 1 := ⟨k - 1, by omega⟩
    have hil : i < s.length := by omega
    have hil1 : i - 1 < s.length := by omega
    simp only [Pr.stowageref27_lines.l0]
    rw [ba_size, if_pos (by omega), wdown i s.length (by omega) h1 (by omega), if_pos (by omega), if_pos (by omega), ba_bt s (i - 1) hil1]
    have hdr : s.drop i = s[i] :: s.drop (i + 1) := List.drop_eq_getElem_cons hil
    have hg : s.getD (i - 1) 0 = s[i - 1] := by simp [hil1]
    have hg1 : s.getD (i + 1 - 1) 0 = s[i] := by simp [hil]
    have hcur : (s.take i).drop frm ++ [s[i]] = (s.take (i + 1)).drop frm := by
      rw [List.take_succ_eq_append_getElem hil, List.drop_append_of_le_length (by rw [List.length_take]; omega)]
    rw [hdr, hg, lnsP_cons]
    by_cases hp : s[i - 1] = 13
    · have hp' : ((s[i - 1]).toNat : Int) = 13 := by rw [hp]; rfl
      rw [if_pos hp', if_pos (by omega), ba_bt s i hil]
      have hne : frm ≠ i := fun h => hf2 h (by rw [List.getElem?_eq_getElem hil1, hp])
      by_cases hc : s[i] = 10
      · have hc' : ((s[i]).toNat : Int) = 10 := by rw [hc]; rfl
        rw [if_pos hc', if_pos (show s[i - 1] = 13 ∧ s[i] = 10 from ⟨hp, hc⟩), if_pos (by omega), if_pos (by omega), if_pos (by omega), if_pos (by omega), wup i s.length (by omega) (by omega), Int.toNat_natCast, Int.toNat_natCast, ba_ext]
        have h10 : s[i + 1 - 1]? ≠ some 13 := by
          rw [Nat.add_sub_cancel, List.getElem?_eq_getElem hil, hc]
          decide
        rw [ih k (i + 1) (i + 1) _ (by omega) (by omega) (by omega) (Nat.le_refl _) (fun _ => h10) (by simp; omega), hg1, hc]
        have he : (s.take (i + 1)).drop (i + 1) = [] := List.drop_of_length_le (by rw [List.length_take]; omega)
        have hl : (s.take (i - 1)).drop frm = ((s.take i).drop frm).dropLast := by
          rw [List.dropLast_eq_take, List.length_drop, List.length_take, List.take_drop, List.take_take]
          congr 2
          omega
        rw [he, hl]
        simp
      · have hc' : ¬ ((s[i]).toNat : Int) = 10 := fun h => hc (by apply UInt8.toNat_inj.1; show s[i].toNat = 10; omega)
        rw [if_neg hc', if_neg (show ¬ (s[i - 1] = 13 ∧ s[i] = 10) from fun h => hc h.2), wup i s.length (by omega) (by omega), ih k (i + 1) frm acc (by omega) (by omega) (by omega) (by omega) (fun h => by omega) (by omega), hg1, hcur]
    · have hp' : ¬ ((s[i - 1]).toNat : Int) = 13 := fun h => hp (by apply UInt8.toNat_inj.1; show s[i - 1].toNat = 13; omega)
      rw [if_neg hp', if_neg (show ¬ (s[i - 1] = 13 ∧ s[i] = 10) from fun h => hp h.1), wup i s.length (by omega) (by omega), ih k (i + 1) frm acc (by omega) (by omega) (by omega) (by omega) (fun h => by omega) (by omega), hg1, hcur]
theorem lines_f (s : Bs) (hs : s.length ≤ 1000000) (k : Nat) (hk : s.length + 1 ≤ k) : Pr.stowageref27_lines.f k (BA s) = some ((lnsP 10 [] s).map BA) := by
  unfold Pr.stowageref27_lines.f
  cases s with
  | nil =>
    obtain ⟨k, rfl⟩ : ∃ n, k = n + 1 := ⟨k - 1, by omega⟩
    simp only [Pr.stowageref27_lines.l0]
    rw [ba_size, if_neg (by simp)]
    rfl
  | cons c r =>
    have h := lines_l0 (c :: r) hs r.length k 1 0 [] (by simp; omega) (by omega) (by simp at hk; omega) (by omega) (fun h => by omega) (by simp)
    rw [show (0 : Int) = ((0 : Nat) : Int) from rfl, show (1 : Int) = ((1 : Nat) : Int) from rfl, h]
    congr 2
end Go.Proofs.YtmgpbcpggnlkkaaGreatDoor
end
section
/- The reference of chapter 27: what its printed functions answer (part 2: numbers, headers, heads). -/
namespace Go.Proofs.YtmgpbcpggnlkkaaGreatDoor
open Go.RowKit Go.Lib Go.Proofs.YtmgpbcpggnlkkaaGreatDoorW.PrintWords Go.Proofs.YtmgpbcpggnlkkaaGreatDoorW.PrintLast Go.Proofs.YtmgpbcpggnlkkaaGreatDoorW.PrintMore
set_option linter.unusedVariables false
set_option linter.unusedSimpArgs false
def numL : Int → Bs → Int
  | acc, [] => acc
  | acc, c :: r => if (c.toNat : Int) < 48 ∨ 57 < (c.toNat : Int) then -1 else numL (10 * acc + ((c.toNat : Int) - 48)) r
def numP (s : Bs) : Int := if s = [] ∨ 7 < s.length then -1 else numL 0 s
theorem pow7 (i : Nat) (h : i ≤ 7) : (10 : Int) ^ i ≤ 10000000 := by
  have : i = 0 ∨ i = 1 ∨ i = 2 ∨ i = 3 ∨ i = 4 ∨ i = 5 ∨ i = 6 ∨ i = 7 := by omega
  rcases this with rfl | rfl | rfl | rfl | rfl | rfl | rfl | rfl <;> decide
theorem number_l0 (s : Bs) (hs : s.length ≤ 7) : ∀ (d k i : Nat) (acc : Int), i + d = s.length → d + 1 ≤ k → 0 ≤ acc → acc + 1 ≤ 10 ^ i →
    Pr.stowageref27_number.l0 k (BA s) acc (i : Int) = some (numL acc (s.drop i)) := by
  intro d
  induction d with
  | zero =>
    intro k i acc hi hk h0 ha
    obtain ⟨k, rfl⟩ : ∃ n, k = n + 1 := ⟨k - 1, by omega⟩
    simp only [Pr.stowageref27_number.l0]
    rw [ba_size, if_neg (by omega), List.drop_of_length_le (by omega)]
    rfl
  | succ d ih =>
    intro k i acc hi hk h0 ha
    obtain ⟨k, rfl⟩ : ∃ n, k = n + 1 := ⟨k - 1, by omega⟩
    have hil : i < s.length := by omega
    have hp := pow7 i (by omega)
    have hps : (10 : Int) ^ (i + 1) = 10 ^ i * 10 := Int.pow_succ 10 i
    simp only [Pr.stowageref27_number.l0]
    rw [ba_size, if_pos (by omega), if_pos (by omega), ba_bt s i hil, List.drop_eq_getElem_cons hil]
    unfold numL
    have hb := (s[i]).toNat_lt
    by_cases h1 : ((s[i]).toNat : Int) < 48
    · rw [if_pos h1, if_pos (.inl h1)]
    · rw [if_neg h1]
      by_cases h2 : 57 < ((s[i]).toNat : Int)
      · rw [if_pos h2, if_pos (.inr h2)]
      · rw [if_neg h2, if_neg (by omega)]
        have e1 : wrap64 (wrap64 (10 * acc) + (((s[i]).toNat : Int) - 48) % 256) = 10 * acc + (((s[i]).toNat : Int) - 48) := by
          rw [Int.emod_eq_of_lt (by omega) (by omega)]
          unfold wrap64
          omega
        rw [e1, wup i s.length (by omega) (by omega)]
        exact ih k (i + 1) _ (by omega) (by omega) (by omega) (by omega)
theorem number_f (s : Bs) (k : Nat) (hk : 10 ≤ k) : Pr.stowageref27_number.f k (BA s) = some (numP s) := by
  obtain ⟨k, rfl⟩ : ∃ n, k = n + 1 := ⟨k - 1, by omega⟩
  unfold Pr.stowageref27_number.f numP
  rw [ba_toList, ba_size]
  by_cases h1 : s = []
  · rw [if_pos h1, if_pos (.inl h1)]
    simp [Pr.stowageref27_number.j0]
  · rw [if_neg h1]
    by_cases h2 : 7 < s.length
    · rw [decide_eq_true (by omega), if_pos (.inr h2)]
      simp [Pr.stowageref27_number.j0]
    · rw [decide_eq_false (by omega), if_neg (by simp only [h1, false_or]; omega)]
      simp only [Pr.stowageref27_number.j0]
      rw [if_neg (by decide)]
      exact number_l0 s (by omega) s.length k 0 0 (by omega) (by omega) (by omega) (by decide)
theorem numL_parse : ∀ (l : Bs) (acc u : Nat), parseUint10 acc l = .ok u → numL (acc : Int) l = (u : Int)
  | [], acc, u, h => by
    simp only [parseUint10] at h
    cases h
    rfl
  | c :: r, acc, u, h => by
    unfold parseUint10 at h
    unfold numL
    split at h
    · rename_i hc
      split at h
      · cases h
      · split at h
        · cases h
        · rw [if_neg (by omega)]
          have := numL_parse r _ u h
          rw [← this]
          congr 1
          omega
    · cases h
theorem dec_size (n : Nat) (h : n ≤ 1000000000) : (decDigits n).length ≤ 20 := by
  rw [Lib.decDigits_length]
  rcases Nat.eq_zero_or_pos n with h0 | h0
  · subst h0; rw [Lib.nDigits_small (by omega)]; omega
  · have := Lib.numDigits_eq n (by omega) (by omega)
    split at this <;> omega
theorem dec_small : ∀ (k n : Nat), n < 10 ^ k → 1 ≤ k → (decDigits n).length ≤ k
  | 0, n, _, h => by omega
  | k + 1, n, hn, _ => by
    unfold decDigits
    split
    · simp
    · rename_i h
      rw [List.length_append]
      rcases Nat.eq_zero_or_pos k with h0 | h0
      · subst h0; omega
      · have := dec_small k (n / 10) (by rw [Nat.pow_succ] at hn; omega) h0
        simp
        omega
theorem numP_dec (n : Nat) (h : n ≤ 1048576) : numP (decDigits n) = n := by
  unfold numP
  have := dec_small 7 n (by omega) (by omega)
  rw [if_neg (by simp only [dec_ne, false_or]; omega)]
  exact numL_parse _ 0 n (parse_dec n (by omega))
theorem dec_f : ∀ (k n : Nat), n < 10 ^ k → n ≤ 1000000000 → 1 ≤ k → Pr.stowageref27_Dec.f k (n : Int) = some (BA (decDigits n))
  | 0, n, _, _, h => by omega
  | k + 1, n, hn, hb, _ => by
    simp only [Pr.stowageref27_Dec.f]
    unfold decDigits
    by_cases h : n < 10
    · rw [if_pos (by omega), if_pos (by omega), wup n 10 (by omega) (by omega), if_pos (by omega), if_pos (by omega), dif_pos h]
      have : n = 0 ∨ n = 1 ∨ n = 2 ∨ n = 3 ∨ n = 4 ∨ n = 5 ∨ n = 6 ∨ n = 7 ∨ n = 8 ∨ n = 9 := by omega
      rcases this with rfl | rfl | rfl | rfl | rfl | rfl | rfl | rfl | rfl | rfl <;> rfl
    · rw [if_neg (by omega), dif_neg h]
      have h0 : 0 < k := by
        rcases Nat.eq_zero_or_pos k with h0 | h0
        · subst h0; omega
        · exact h0
      have e1 : wrap64 (Int.tdiv (n : Int) 10) = ((n / 10 : Nat) : Int) := by
        rw [Int.tdiv_eq_ediv_of_nonneg (by omega)]
        unfold wrap64
        omega
      have e2 : Int.tmod (n : Int) 10 = ((n % 10 : Nat) : Int) := by
        rw [Int.tmod_eq_emod_of_nonneg (by omega)]
        omega
      have hlt : n % 10 < 10 ^ k := Nat.lt_of_lt_of_le (Nat.mod_lt _ (by omega)) (by have := Nat.pow_le_pow_right (show 0 < 10 by omega) h0; simpa using this)
      rw [e1, e2, dec_f k (n / 10) (by rw [Nat.pow_succ] at hn; omega) (by omega) h0, Option.bind_some, dec_f k (n % 10) hlt (by omega) h0, Option.bind_some]
      have s1 := dec_size (n / 10) (by omega)
      have s2 := dec_size (n % 10) (by omega)
      rw [if_pos (by rw [ba_size, ba_size]; omega), ba_app]
      congr 2
      congr 1
      rw [decDigits, dif_pos (by omega)]
theorem rwords_f (st : Int) : Pr.stowageref27_Words.f st = some (BA (wordsL st), if wordsL st = [] then 5 else 0) := by
  unfold Pr.stowageref27_Words.f wordsL BA
  by_cases h0 : st = 200
  · subst h0; rfl
  by_cases h1 : st = 204
  · subst h1; rfl
  by_cases h2 : st = 206
  · subst h2; rfl
  by_cases h3 : st = 400
  · subst h3; rfl
  by_cases h4 : st = 404
  · subst h4; rfl
  by_cases h5 : st = 405
  · subst h5; rfl
  by_cases h6 : st = 409
  · subst h6; rfl
  by_cases h7 : st = 413
  · subst h7; rfl
  by_cases h8 : st = 416
  · subst h8; rfl
  by_cases h9 : st = 503
  · subst h9; rfl
  simp only [if_neg h0, if_neg h1, if_neg h2, if_neg h3, if_neg h4, if_neg h5, if_neg h6, if_neg h7, if_neg h8, if_neg h9]
  rfl
end Go.Proofs.YtmgpbcpggnlkkaaGreatDoor
end
section
/- The reference of chapter 27: what its printed functions answer (part 3: headers, what is wrong, heads). -/
namespace Go.Proofs.YtmgpbcpggnlkkaaGreatDoor
open Go.RowKit Go.Lib Go.Proofs.YtmgpbcpggnlkkaaGreatDoorW.PrintWords Go.Proofs.YtmgpbcpggnlkkaaGreatDoorW.PrintLast Go.Proofs.YtmgpbcpggnlkkaaGreatDoorW.PrintMore
set_option linter.unusedVariables false
set_option linter.unusedSimpArgs false
theorem ba_of (s : ByteArray) : ∃ l : Bs, s = BA l := ⟨s.data.toList, bs_mk rfl⟩
/-- Values: no blank at either end. -/
def edgeP (v : Bs) : Bool := v.isEmpty || (v.getD 0 0 != 32 && v.getD (v.length - 1) 0 != 32)
theorem drop_while_le (p : UInt8 → Bool) : ∀ l : Bs, (l.dropWhile p).length ≤ l.length
  | [] => by simp
  | c :: r => by
    have := drop_while_le p r
    rw [List.dropWhile_cons]
    split <;> simp <;> omega
theorem trim_edge (v : Bs) : (trimS v [32] == v) = edgeP v := by
  have h32 : ∀ c : UInt8, ([32] : Bs).contains c = (c == 32) := fun c => by rw [Bool.eq_iff_iff]; simp
  rw [Bool.eq_iff_iff, beq_iff_eq]
  unfold edgeP
  cases hv : v with
  | nil => simp [trimS, trimLeftS, trimRightS]
  | cons c r =>
    rw [← hv]
    have hpos : 0 < v.length := by rw [hv]; simp
    have e0 : v.getD 0 0 = c := by rw [hv]; rfl
    have hne : v.isEmpty = false := by rw [hv]; rfl
    rw [hne, Bool.false_or, Bool.and_eq_true, bne_iff_ne, bne_iff_ne]
    have hl1 : v.length - 1 < v.length := by omega
    have el : v.getD (v.length - 1) 0 = v[v.length - 1] := by simp [hl1]
    have hR : (trimRightS v [32]).length ≤ v.length := by
      unfold trimRightS
      rw [List.length_reverse]
      have := drop_while_le (([32] : Bs).contains ·) v.reverse
      simpa using this
    have hL : ∀ w : Bs, (trimLeftS w [32]).length ≤ w.length := fun w => drop_while_le _ w
    constructor
    · intro h
      have hlen : (trimS v [32]).length = v.length := by rw [h]
      have hle := hL (trimRightS v [32])
      have hlen2 : (trimLeftS (trimRightS v [32]) [32]).length = v.length := hlen
      constructor
      · intro hc
        have hRv : trimRightS v [32] <+: v := by
          unfold trimRightS
          have := List.dropWhile_suffix (l := v.reverse) (([32] : Bs).contains ·)
          have h2 := List.reverse_prefix.2 this
          rwa [List.reverse_reverse] at h2
        have hRe : trimRightS v [32] = v := hRv.eq_of_length (by omega)
        rw [hRe, hv] at hlen2
        unfold trimLeftS at hlen2
        rw [List.dropWhile_cons] at hlen2
        have hc32 : c = 32 := by rw [← e0]; exact hc
        subst hc32
        rw [if_pos (by simp)] at hlen2
        have := drop_while_le (([32] : Bs).contains ·) r
        rw [show (32 :: r : Bs).length = r.length + 1 from rfl] at hlen2
        omega
      · intro hc
        have : v.reverse = 32 :: (v.take (v.length - 1)).reverse := by
          have h3 : v = v.take (v.length - 1) ++ [v[v.length - 1]] := by
            rw [List.take_append_getElem]
            rw [List.take_of_length_le (by omega)]
          conv => lhs; rw [h3]
          rw [List.reverse_append, ← el, hc]
          rfl
        have hR2 : (trimRightS v [32]).length ≤ v.length - 1 := by
          unfold trimRightS
          rw [List.length_reverse, this, List.dropWhile_cons, if_pos (by simp)]
          have := drop_while_le (([32] : Bs).contains ·) (v.take (v.length - 1)).reverse
          rw [List.length_reverse, List.length_take] at this
          omega
        omega
    · rintro ⟨h0, h1⟩
      have hRe : trimRightS v [32] = v := by
        rw [Lib.trimRightS_take v [32] v.length (Nat.le_refl _) (fun j b hj hb => by rw [List.getElem?_eq_none hj] at hb; cases hb) (fun b _ hb => by
          rw [h32]
          rw [List.getElem?_eq_getElem hl1] at hb
          cases hb
          rw [← el]
          exact beq_eq_false_iff_ne.2 h1), List.take_length]
      unfold trimS
      rw [hRe, Lib.trimLeftS_drop v [32] 0 (by omega) (fun j b hj => absurd hj (Nat.not_lt_zero j)) (fun b hb => by
        rw [h32]
        rw [hv] at hb
        cases hb
        rw [← e0]
        exact beq_eq_false_iff_ne.2 h0), List.drop_zero]
theorem may_l1 (n v : Bs) (hn : n.length ≤ 1000000) (hv : v.length ≤ 1000000) : ∀ (d k j : Nat), j + d = v.length → d + 1 ≤ k →
    Pr.stowageref27_may.l1 k (j : Int) (BA n) (BA v) = some ((v.drop j).all valC && (decide (1 ≤ n.length) && (decide (n.length ≤ 40) && (!(n == cl14) && (decide (v.length ≤ 1000) && edgeP v))))) := by
  intro d
  induction d with
  | zero =>
    intro k j hj hk
    obtain ⟨k, rfl⟩ : ∃ n, k = n + 1 := ⟨k - 1, by omega⟩
    simp only [Pr.stowageref27_may.l1]
    have e : v.drop j = [] := List.drop_of_length_le (by omega)
    rw [ba_size, if_neg (by omega), e, ba_size, ba_toList]
    by_cases h1 : 1 ≤ n.length
    case neg => rw [if_neg (by omega), decide_eq_false h1]; simp
    rw [if_pos (by omega), decide_eq_true h1]
    by_cases h2 : n.length ≤ 40
    case neg => rw [if_neg (by omega), decide_eq_false h2]; simp
    rw [if_pos (by omega), decide_eq_true h2]
    by_cases h3 : n = ([99, 111, 110, 116, 101, 110, 116, 45, 108, 101, 110, 103, 116, 104] : List UInt8)
    case pos => rw [if_pos h3, h3]; simp [cl14]
    have h3b : (n == cl14) = false := beq_eq_false_iff_ne.2 h3
    rw [if_neg h3, h3b]
    by_cases h4 : v.length ≤ 1000
    case neg => rw [if_neg (by omega), decide_eq_false h4]; simp
    rw [if_pos (by omega), decide_eq_true h4]
    by_cases h5 : v.length = 0
    · rw [if_pos (by omega)]
      have : v = [] := List.eq_nil_of_length_eq_zero h5
      subst this
      rfl
    · rw [if_neg (by omega), if_pos (by omega)]
      have hb0 := ba_bt v 0 (by omega)
      have hbl := ba_bt v (v.length - 1) (by omega)
      rw [show ((0 : Nat) : Int) = 0 from rfl] at hb0
      rw [hb0]
      have hne : v.isEmpty = false := by
        rw [List.isEmpty_eq_false_iff]
        intro h
        exact h5 (by rw [h]; rfl)
      have g0 : v.getD 0 0 = v[0]'(by omega) := by simp [show 0 < v.length by omega]
      have gl : v.getD (v.length - 1) 0 = v[v.length - 1]'(by omega) := by simp [show v.length - 1 < v.length by omega]
      unfold edgeP
      rw [hne, g0, gl]
      by_cases h6 : v[0]'(by omega) = 32
      · rw [if_pos (by rw [h6]; rfl), h6]
        simp
      · rw [if_neg (fun h => h6 (by apply UInt8.toNat_inj.1; show (v[0]'(by omega)).toNat = 32; omega)), wdown v.length v.length (Nat.le_refl _) (by omega) (by omega), if_pos (by omega), if_pos (by omega), hbl]
        have h6b : ((v[0]'(by omega)) != 32) = true := by simpa using h6
        rw [h6b]
        simp only [List.all_nil, Bool.true_and, Bool.false_or, Bool.not_false]
        congr 1
        rw [Bool.eq_iff_iff, bne_iff_ne, bne_iff_ne]
        constructor
        · intro h he
          exact h (by rw [he]; rfl)
        · intro h he
          exact h (by apply UInt8.toNat_inj.1; show (v[v.length - 1]'(by omega)).toNat = 32; omega)
  | succ d ih =>
    intro k j hj hk
    obtain ⟨k, rfl⟩ : ∃ n, k = n + 1 := ⟨k - 1, by omega⟩
    have hjl : j < v.length := by omega
    simp only [Pr.stowageref27_may.l1]
    rw [ba_size, if_pos (by omega), if_pos (by omega), ba_bt v j hjl, List.drop_eq_getElem_cons hjl, List.all_cons, valC_int]
    by_cases h1 : ((v[j]).toNat : Int) < 32
    · rw [if_pos h1, decide_eq_false (by omega)]
      simp
    · rw [if_neg h1, decide_eq_true (by omega)]
      by_cases h2 : 126 < ((v[j]).toNat : Int)
      · rw [if_pos h2, decide_eq_false (by omega)]
        simp
      · rw [if_neg h2, decide_eq_true (by omega), wup j v.length (by omega) (by omega), ih k (j + 1) (by omega) (by omega)]
        simp
theorem may_l0 (n v : Bs) (hn : n.length ≤ 1000000) (hv : v.length ≤ 1000000) : ∀ (d k j : Nat), j + d = n.length → 2 * d + v.length + 2 ≤ k →
    Pr.stowageref27_may.l0 k (j : Int) (BA n) (BA v) = some ((n.drop j).all nameC && (v.all valC && (decide (1 ≤ n.length) && (decide (n.length ≤ 40) && (!(n == cl14) && (decide (v.length ≤ 1000) && edgeP v)))))) := by
  intro d
  induction d with
  | zero =>
    intro k j hj hk
    obtain ⟨k, rfl⟩ : ∃ n, k = n + 1 := ⟨k - 1, by omega⟩
    simp only [Pr.stowageref27_may.l0]
    have e : n.drop j = [] := List.drop_of_length_le (by omega)
    have h := may_l1 n v hn hv v.length k 0 (by omega) (by omega)
    rw [ba_size, if_neg (by omega), e, show (0 : Int) = ((0 : Nat) : Int) from rfl, h]
    simp
  | succ d ih =>
    intro k j hj hk
    obtain ⟨k, rfl⟩ : ∃ n, k = n + 1 := ⟨k - 1, by omega⟩
    obtain ⟨k, rfl⟩ : ∃ n, k = n + 1 := ⟨k - 1, by omega⟩
    have hjl : j < n.length := by omega
    have hstep : Pr.stowageref27_may.l0 (k + 1 + 1) (j : Int) (BA n) (BA v) = Pr.stowageref27_may.j1 (k + 1) (j : Int) (!(nameC n[j])) (BA n) (BA v) := by
      conv => lhs; rw [Pr.stowageref27_may.l0]
      rw [ba_size, if_pos (by omega), if_pos (by omega), ba_bt n j hjl, nameC_int]
      generalize ((n[j]).toNat : Int) = x
      by_cases h1 : x < 97 <;> by_cases h2 : 122 < x <;> by_cases h3 : x < 48 <;> by_cases h4 : 57 < x <;> by_cases h5 : x = 45 <;> first | (exfalso; omega) | (simp [h1, h2, h3, h4, h5]; done) | (simp [h1, h2, h3, h4, h5]; omega) | (simp only [h1, h2, h3, h4, if_true, if_false]; congr 1; rw [Bool.eq_iff_iff]; simp; omega)
    rw [hstep, List.drop_eq_getElem_cons hjl, List.all_cons]
    simp only [Pr.stowageref27_may.j1]
    cases hc : nameC n[j] with
    | false => simp
    | true =>
      rw [if_neg (by decide), wup j n.length (by omega) (by omega), ih k (j + 1) (by omega) (by omega)]
      simp
theorem rmay_f (n v : Bs) (hn : n.length ≤ 1000000) (hv : v.length ≤ 1000000) (k : Nat) (hk : 2 * n.length + v.length + 2 ≤ k) : Pr.stowageref27_may.f k (BA n) (BA v) = some (mayP (n, v)) := by
  unfold Pr.stowageref27_may.f mayP
  rw [trim_edge]
  have h := may_l0 n v hn hv n.length k 0 (by omega) hk
  rw [show (0 : Int) = ((0 : Nat) : Int) from rfl, h, List.drop_zero]
theorem rwrong_l0 (st : Int) (l : List SPair) (b : List Int) (size : Int) (hl : l.length ≤ 1000000) (hsz : ∀ p ∈ l, p.f0.size ≤ 100000 ∧ p.f1.size ≤ 100000) : ∀ (d k j : Nat), j + d = l.length → d + 300010 ≤ k →
    Pr.stowageref27_wrong.l0 k size (j : Int) st l b = some (if ((l.drop j).map pairL).all mayP then (if size > 1048576 then 3 else 0) else 4) := by
  intro d
  induction d with
  | zero =>
    intro k j hj hk
    obtain ⟨k, rfl⟩ : ∃ n, k = n + 1 := ⟨k - 1, by omega⟩
    unfold Pr.stowageref27_wrong.l0
    have e : l.drop j = [] := List.drop_of_length_le (by omega)
    rw [if_neg (by omega), e]
    simp only [List.map_nil, List.all_nil, if_true]
    split <;> rfl
  | succ d ih =>
    intro k j hj hk
    obtain ⟨k, rfl⟩ : ∃ n, k = n + 1 := ⟨k - 1, by omega⟩
    have hjl : j < l.length := by omega
    have hs := hsz l[j] (List.getElem_mem hjl)
    obtain ⟨n, hn⟩ := ba_of l[j].f0
    obtain ⟨v, hv⟩ := ba_of l[j].f1
    have hp : pairL l[j] = (n, v) := by unfold pairL; rw [hn, hv, ba_list, ba_list]
    rw [hn, ba_size, hv, ba_size] at hs
    unfold Pr.stowageref27_wrong.l0
    rw [if_pos (by omega), if_pos (by omega), rdP l j hjl, hn, hv, rmay_f n v (by omega) (by omega) k (by omega), Option.bind_some, List.drop_eq_getElem_cons hjl, List.map_cons, List.all_cons, hp]
    cases hc : mayP (n, v) with
    | true => rw [if_pos rfl, wup j l.length (by omega) (by omega), ih k (j + 1) (by omega) (by omega), Bool.true_and]
    | false => simp
theorem rwrong_f (st : Int) (l : List SPair) (b : List Int) (size : Int) (hl : l.length ≤ 1000000) (hsz : ∀ p ∈ l, p.f0.size ≤ 100000 ∧ p.f1.size ≤ 100000) (k : Nat) (hk : l.length + 300010 ≤ k) :
    Pr.stowageref27_wrong.f k st l b size = some (if wrongL st (l.map pairL) = 0 then (if size > 1048576 then 3 else 0) else wrongL st (l.map pairL)) := by
  unfold Pr.stowageref27_wrong.f wrongL
  rw [rwords_f, Option.bind_some]
  dsimp only
  by_cases h1 : wordsL st = []
  · simp only [h1, if_true]
    rfl
  · simp only [if_neg h1, List.length_map]
    rw [if_pos trivial]
    by_cases h2 : 32 < l.length
    · rw [if_pos (by omega), if_pos h2]
      rfl
    · rw [if_neg (by omega), if_neg h2]
      have h := rwrong_l0 st l b size hl hsz l.length k 0 (by omega) (by omega)
      rw [show (0 : Int) = ((0 : Nat) : Int) from rfl, h, List.drop_zero]
      cases hc : (l.map pairL).all mayP with
      | true => simp
      | false => simp
theorem rhead_l0 (st : Int) (l : List SPair) (b : List Int) (size : Nat) (hl : l.length ≤ 1000) (hz : size ≤ 1048576) (hsz : ∀ p ∈ l, p.f0.size ≤ 2000 ∧ p.f1.size ≤ 2000) : ∀ (d k j : Nat) (a : Bs), j + d = l.length → d + 20 ≤ k → a.length ≤ 1000 + 5000 * j →
    Pr.stowageref27_head.l0 k (size : Int) (BA a) (j : Int) st l b = some (BA (a ++ hdrs (l.drop j) ++ lineN size ++ four)) := by
  intro d
  induction d with
  | zero =>
    intro k j a hj hk ha
    obtain ⟨k, rfl⟩ : ∃ n, k = n + 1 := ⟨k - 1, by omega⟩
    unfold Pr.stowageref27_head.l0
    have e : l.drop j = [] := List.drop_of_length_le (by omega)
    have hd := dec_size size (by omega)
    have hpw : size < 10 ^ k := Nat.lt_of_lt_of_le (show size < 10 ^ 10 by omega) (Nat.pow_le_pow_right (by omega) (by omega))
    rw [if_neg (by omega), ba_size, if_pos (by omega), dec_f k size hpw (by omega) (by omega), Option.bind_some, ba_size, if_pos (by omega), if_pos (by omega), e]
    have e1 : (⟨#[99, 111, 110, 116, 101, 110, 116, 45, 108, 101, 110, 103, 116, 104, 58, 32]⟩ : ByteArray) = BA (cl14 ++ [58, 32]) := rfl
    have e2 : (⟨#[13, 10, 13, 10]⟩ : ByteArray) = BA four := rfl
    rw [e1, e2, ba_app, ba_app, ba_app]
    unfold lineN hdrs
    simp
  | succ d ih =>
    intro k j a hj hk ha
    obtain ⟨k, rfl⟩ : ∃ n, k = n + 1 := ⟨k - 1, by omega⟩
    have hjl : j < l.length := by omega
    have hs := hsz l[j] (List.getElem_mem hjl)
    obtain ⟨n, hn⟩ := ba_of l[j].f0
    obtain ⟨v, hv⟩ := ba_of l[j].f1
    have hp : pairL l[j] = (n, v) := by unfold pairL; rw [hn, hv, ba_list, ba_list]
    rw [hn, ba_size, hv, ba_size] at hs
    unfold Pr.stowageref27_head.l0
    have e1 : (⟨#[58, 32]⟩ : ByteArray) = BA [58, 32] := rfl
    have e2 : (⟨#[13, 10]⟩ : ByteArray) = BA crlf := rfl
    rw [if_pos (by omega), if_pos (by omega), rdP l j hjl, hn, hv, ba_size, ba_size, ba_size, if_pos (by omega), if_pos (by omega), if_pos (by omega), if_pos (by omega), e1, e2, ba_app, ba_app, ba_app, ba_app, wup j l.length (by omega) (by omega)]
    have hcl : crlf.length = 2 := rfl
    rw [ih k (j + 1) _ (by omega) (by omega) (by simp only [List.length_append, List.length_cons, List.length_nil]; omega), hdrs_step l j hjl, hp]
    unfold hdr
    simp
theorem rhead_f (st : Int) (l : List SPair) (b : List Int) (size : Nat) (hst : wordsL st ≠ []) (hl : l.length ≤ 1000) (hz : size ≤ 1048576) (hsz : ∀ p ∈ l, p.f0.size ≤ 2000 ∧ p.f1.size ≤ 2000) (k : Nat) (hk : l.length + 20 ≤ k) :
    Pr.stowageref27_head.f k st l b (size : Int) = some (BA (headL st (l.map pairL) size)) := by
  obtain ⟨s, rfl, h1, h2⟩ := sts_nat hst
  unfold Pr.stowageref27_head.f
  have hpw : s < 10 ^ k := Nat.lt_of_lt_of_le (show s < 10 ^ 10 by omega) (Nat.pow_le_pow_right (by omega) (by omega))
  have hd := dec_size s (by omega)
  have hw := words_len (s : Int)
  rw [rwords_f, Option.bind_some]
  dsimp only
  rw [dec_f k s hpw (by omega) (by omega), Option.bind_some, ba_size, ba_size, if_pos (by omega), if_pos (by omega), if_pos (by omega), if_pos (by omega)]
  have e1 : (⟨#[72, 84, 84, 80, 47, 49, 46, 49, 32]⟩ : ByteArray) = BA (([72, 84, 84, 80, 47, 49, 46, 49] : List UInt8) ++ [32]) := rfl
  have e2 : (⟨#[13, 10]⟩ : ByteArray) = BA crlf := rfl
  have e3 : (⟨#[32]⟩ : ByteArray) = BA [32] := rfl
  have hcl : crlf.length = 2 := rfl
  rw [e1, e2, e3, ba_app, ba_app, ba_app, ba_app]
  have h := rhead_l0 (s : Int) l b size hl hz hsz l.length k 0 (((([72, 84, 84, 80, 47, 49, 46, 49] : List UInt8) ++ [32] ++ decDigits s) ++ [32]) ++ wordsL (s : Int) ++ crlf) (by omega) (by omega) (by simp only [List.length_append, List.length_cons, List.length_nil]; omega)
  rw [show (0 : Int) = ((0 : Nat) : Int) from rfl, h, head_form, List.drop_zero]
  unfold line0
  rw [show itoa (s : Int) = decDigits s from Lib.itoa_nonneg s]
  simp
end Go.Proofs.YtmgpbcpggnlkkaaGreatDoor
end
section
namespace Go.Proofs.YtmgpbcpggnlkkaaGreatDoor.Pr
open Go.RowKit Go.Proofs.YtmgpbcpggnlkkaaGreatDoorW.PrintWords Go.Proofs.YtmgpbcpggnlkkaaGreatDoorW.PrintLast Go.Proofs.YtmgpbcpggnlkkaaGreatDoorW.PrintMore
attribute [local go_sem] max2_int min2_int max_two min_two max_three min_three max_four min_four -- for this text's walks alone
set_option linter.unusedVariables false
set_option linter.unusedSimpArgs false

/-! ### response_Bytes: function 14 -/
def response_Bytes.f (k : Nat) (a0_0 : Int) (l0_1 : List (S51)) (l0_2 : List Int) : Option (List Int × Int) := (response_wrong.f k a0_0 l0_1 l0_2).bind fun t224 => (if t224 = 0 then (if (l0_2.length : Int) > 1048576 then (some (([] : List Int), 3)) else ((response_head.f a0_0 l0_1 l0_2 (l0_2.length : Int)).bind fun t225 => (if t225.length + l0_2.length < 140737488355328 then (some ((t225 ++ l0_2), 0)) else (none)))) else (some (([] : List Int), t224)))
theorem response_Bytes.mono : ∀ a0 a1 a2 k, LeO (response_Bytes.f k a0 a1 a2) (response_Bytes.f (k + 1) a0 a1 a2) := by
 intro a0 a1 a2 k
 unfold response_Bytes.f
 repeat' first
   | (with_reducible exact response_wrong.mono _ _ _ _)
   | (with_reducible exact LeO.refl _)
   | (with_reducible exact LeO.none _)
   | (with_reducible refine LeO.ite ?_ ?_)
   | (with_reducible refine LeO.bind ?_ (fun _ => ?_))
   | exact response_wrong.mono _ _ _ _
   | exact LeO.none _
   | refine LeO.ite ?_ ?_
   | refine LeO.bind ?_ (fun _ => ?_)
def response_Bytes.T6 : Bool × List (List Nat × List Nat) := (true, [([], []), ([], []), ([1], [1]), ([2], [2]), ([0, 3], [0, 3]), ([], []), ([5], [5]), ([4, 6, 4], [4, 6]), ([7, 7, 0, 1, 2, 3, 4, 5, 6, 7], [7]), ([8, 0, 1, 2, 3, 4, 5, 6, 7, 8], [])])
def response_Bytes.B6 : List Nat := [0, 0, 2, 6, 15, 0, 32, 127, 255, 511]
theorem response_Bytes.tab6 : rtab .any (opsOf Tryz.f14 6) = response_Bytes.T6 := by kernel_rfl
theorem response_Bytes.bits6 : waitsOk response_Bytes.T6.2 response_Bytes.B6 = true := by kernel_rfl
set_option maxHeartbeats 8000000 in
set_option maxRecDepth 100000 in
theorem response_Bytes.calls (k : Nat) (a0_0 : Int) (A0_1 : Option Addr) (c0_1 : Nat) (l0_1 : List (S51)) (A0_2 : Option Addr) (c0_2 : Nat) (l0_2 : List Int) (r1 : List Int) (r2 : Int) (w : World) (hG : GM w) (hr0_1 : Kd.C k51 w A0_1 l0_1.length l0_1) (hc0_1 : l0_1.length ≤ c0_1) (hr0_2 : Kd.C (Kd.int .u8) w A0_2 l0_2.length l0_2) (hc0_2 : l0_2.length ≤ c0_2) (h : response_Bytes.f k a0_0 l0_1 l0_2 = some (r1, r2)) :
  Calls Tryz.prog 14 #[.agg #[.int .i64 a0_0, .slice A0_1 l0_1.length c0_1, .slice A0_2 l0_2.length c0_2]] w fun e w' => ∃ v0_ : Value, e = .returned (.tuple #[v0_, .int .i64 r2]) ∧ Kd.R (Kd.int .u8) 5 w' w.heap.size (fun _ => True) v0_ r1 ∧ Below w.heap.size w w' := by
 have hu26 := Tryz.underlying26
 have HR0_1 := Aside0.mk hr0_1
 have HC0_1 := Aside0.mk hc0_1
 clear hr0_1 hc0_1
 have HR0_2 := Aside0.mk hr0_2
 have HC0_2 := Aside0.mk hc0_2
 clear hr0_2 hc0_2
 have HB := Aside0.mk (Below.refl w.heap.size w)
 have HG := Aside0.mk hG
 clear hG
 have H : ((response_wrong.f k a0_0 l0_1 l0_2).bind fun t224 => (if t224 = 0 then (if (l0_2.length : Int) > 1048576 then (some (([] : List Int), 3)) else ((response_head.f a0_0 l0_1 l0_2 (l0_2.length : Int)).bind fun t225 => (if t225.length + l0_2.length < 140737488355328 then (some ((t225 ++ l0_2), 0)) else (none)))) else (some (([] : List Int), t224)))) = some (r1, r2) := h
 clear h
 replace H := Option.bind_eq_some_iff.mp H
 obtain ⟨t224, A20, H⟩ := H
 replace H : (if t224 = 0 then (if (l0_2.length : Int) > 1048576 then (some (([] : List Int), 3)) else ((response_head.f a0_0 l0_1 l0_2 (l0_2.length : Int)).bind fun t225 => (if t225.length + l0_2.length < 140737488355328 then (some ((t225 ++ l0_2), 0)) else (none)))) else (some (([] : List Int), t224))) = some (r1, r2) := H
 have A2 := Aside0.mk A20
 clear A20
 by_cases c3 : t224 = 0
 ·rw [if_pos c3] at H
  have c3b0 : (t224 == 0) = true := beq_iff_eq.mpr c3
  have c3b1 : (t224 != 0) = false := bne_eq_false_iff_eq.mpr c3
  clear c3
  by_cases c4 : (l0_2.length : Int) > 1048576
  ·rw [if_pos c4] at H
   have c4b0 : decide (1048576 < (l0_2.length : Int)) = true := decide_eq_true c4
   have c4b1 : decide (1048576 < l0_2.length) = true := decide_eq_true (by omega)
   clear c4
   simp only [Option.some.injEq, Prod.mk.injEq] at H
   obtain ⟨rfl, rfl⟩ := H
   go_enter Tryz.func14, Tryz.ntmps14
   go_wp2_with (first|((with_reducible refine gate_dst (N := 1) rfl ?_); refine box_event ?hg (N := 1) ?hd (cs := #[.int .i64 a0_0, .slice A0_1 l0_1.length c0_1, .slice A0_2 l0_2.length c0_2]) (t := 26) ?hr ?_; (case hd => rfl); (case hg => rfl); (case hr => first|(go_simp; done)|(go_simp; rfl)); intro gb223 hg w5 hbox hb; have n0_ := Aside0.mk (below_step (by repeat (first|(with_reducible first|exact HB.out|apply below_alloc|apply pw_below_drewN|apply below_drew1)|exact HB.out)) hb); have n1_ := Aside0.mk (hbox); have n2_ := Aside0.mk ((by rw [hg]; exact (below_size (by repeat (first|(with_reducible first|exact HB.out|apply below_alloc|apply pw_below_drewN|apply below_drew1)|exact HB.out))) : w.heap.size ≤ gb223)); have n3_ := Aside0.mk ((by rw [hg]; exact (below_size (by repeat (first|(with_reducible first|exact HB.out|apply below_alloc|apply pw_below_drewN|apply below_drew1)|exact HB.out))) : w.heap.size ≤ gb223)); clear HB; have HB := n0_; have BK223 := n1_; have GW223 := n2_; have GE223 := n3_; clear n0_ n1_ n2_ n3_; clear hb hbox hg; have hcz6_0 : w5.cell? ⟨gb223, 0, none⟩ = some (.int .i64 a0_0) := (blk_cell BK223.out 0).trans rfl; have hcz6_1 : w5.cell? ⟨gb223, 1, none⟩ = some (.slice A0_1 l0_1.length c0_1) := (blk_cell BK223.out 1).trans rfl; have hcz6_2 : w5.cell? ⟨gb223, 2, none⟩ = some (.slice A0_2 l0_2.length c0_2) := (blk_cell BK223.out 2).trans rfl; have hfz6_0 := blk_frozen BK223.out 0; have hfz6_1 := blk_frozen BK223.out 1; have hfz6_2 := blk_frozen BK223.out 2)|((with_reducible refine gate_callee (f := 29) rfl ?_); refine goesL_ (some 6) rfl rfl Tryz.func29 (by kernel_rfl) rfl #[.agg #[.int .i64 a0_0, .slice A0_1 l0_1.length c0_1, .slice A0_2 l0_2.length c0_2]] rfl (by (try simp only [List.map_toArray, List.map_cons, List.map_nil]); first|done|rfl|(simp only [List.length_drop, List.length_take]; rfl)) ?_; (with_reducible refine (response_wrong.calls k a0_0 _ _ l0_1 _ _ l0_2 t224 _ ?side1 ?side2 ?side3 ?side4 A2.out).mono ?_); (case side1 => repeat (first|exact (Kd.C_below HR0_1.out HB.out)|(with_reducible refine Kd.C_alloc ?_ _)|(with_reducible refine Kd.C_drewN ?_ _)|(with_reducible refine Kd.C_drew ?_))); (case side2 => exact HC0_1.out); (case side3 => repeat (first|exact (Kd.C_below HR0_2.out HB.out)|(with_reducible refine Kd.C_alloc ?_ _)|(with_reducible refine Kd.C_drewN ?_ _)|(with_reducible refine Kd.C_drew ?_))); (case side4 => exact HC0_2.out); rintro e w7 ⟨rfl, hb⟩; refine ⟨_, rfl, ?_⟩; have n0_ := Aside0.mk (blk_below (g := gb223) (o := .cells #[.int .i64 a0_0, .slice A0_1 l0_1.length c0_1, .slice A0_2 l0_2.length c0_2] 26 (0, 0)) (by (with_reducible repeat (first|refine blk_drewN ?_ _|refine blk_drew ?_|refine blk_alloc ?_ _)); exact BK223.out) hb); have n1_ := Aside0.mk (below_step (by repeat (first|(with_reducible first|exact HB.out|apply below_alloc|apply pw_below_drewN|apply below_drew1|refine below_set ?_ GE223.out)|exact HB.out)) hb); clear BK223; clear HB; have BK223 := n0_; have HB := n1_; clear n0_ n1_; (try clear hb); (try clear hb2); (try clear hk); (try clear hi); have hcz8_0 : w7.cell? ⟨gb223, 0, none⟩ = some (.int .i64 a0_0) := (blk_cell BK223.out 0).trans rfl; have hcz8_1 : w7.cell? ⟨gb223, 1, none⟩ = some (.slice A0_1 l0_1.length c0_1) := (blk_cell BK223.out 1).trans rfl; have hcz8_2 : w7.cell? ⟨gb223, 2, none⟩ = some (.slice A0_2 l0_2.length c0_2) := (blk_cell BK223.out 2).trans rfl; have hfz8_0 := blk_frozen BK223.out 0; have hfz8_1 := blk_frozen BK223.out 1; have hfz8_2 := blk_frozen BK223.out 2))
   go_ret2
   exact ⟨_, by first|rfl|(simp [errW_none, errW_some] <;> rfl)|(simp [*, errW_none, errW_some] <;> rfl), by first|exact Kd.R_nil _ _ _ _ _|exact Kd.N_nil _ _ _ _ _|exact Kd.V_nil _ _ _ _ _|exact Kd.Q_nil _ _ _ _ _|exact Kd.S_nil _ _ _ _ _, by repeat (first|(with_reducible first|exact HB.out|apply below_alloc|apply pw_below_drewN|apply below_drew1|refine below_set ?_ GE223.out)|exact HB.out)⟩
  ·rw [if_neg c4] at H
   have c4b0 : decide (1048576 < (l0_2.length : Int)) = false := decide_eq_false c4
   have c4b1 : decide (1048576 < l0_2.length) = false := decide_eq_false (by omega)
   clear c4
   replace H := Option.bind_eq_some_iff.mp H
   obtain ⟨t225, A90, H⟩ := H
   replace H : (if t225.length + l0_2.length < 140737488355328 then (some ((t225 ++ l0_2), 0)) else (none)) = some (r1, r2) := H
   have A9 := Aside0.mk A90
   clear A90
   by_cases c10 : t225.length + l0_2.length < 140737488355328
   ·rw [if_pos c10] at H
    have LMc10 := Aside0.mk c10
    clear c10
    obtain ⟨y228, hy228⟩ : ∃ y_ : List Int, y_ = (t225 ++ l0_2) := ⟨_, rfl⟩
    replace H : (some (y228, 0)) = some (r1, r2) := by first|(rw [hy228]; with_reducible exact H)|(have H2_ := (Option.bind_some _ _).symm.trans H; rw [hy228]; with_reducible exact H2_)|(have H2_ := (Option.bind_some _ _).symm.trans H; with_reducible exact H2_)|with_reducible exact H|(rw [hy228]; exact H)|exact H
    have Ny228 := Aside0.mk hy228
    clear hy228
    simp only [Option.some.injEq, Prod.mk.injEq] at H
    obtain ⟨rfl, rfl⟩ := H
    go_enter Tryz.func14, Tryz.ntmps14
    try go_wp2_with (first|((with_reducible refine gate_dst (N := 1) rfl ?_); refine box_event ?hg (N := 1) ?hd (cs := #[.int .i64 a0_0, .slice A0_1 l0_1.length c0_1, .slice A0_2 l0_2.length c0_2]) (t := 26) ?hr ?_; (case hd => rfl); (case hg => rfl); (case hr => first|(go_simp; done)|(go_simp; rfl)); intro gb223 hg w11 hbox hb; have n0_ := Aside0.mk (below_step (by repeat (first|(with_reducible first|exact HB.out|apply below_alloc|apply pw_below_drewN|apply below_drew1)|exact HB.out)) hb); have n1_ := Aside0.mk (hbox); have n2_ := Aside0.mk ((by rw [hg]; exact (below_size (by repeat (first|(with_reducible first|exact HB.out|apply below_alloc|apply pw_below_drewN|apply below_drew1)|exact HB.out))) : w.heap.size ≤ gb223)); have n3_ := Aside0.mk ((by rw [hg]; exact (below_size (by repeat (first|(with_reducible first|exact HB.out|apply below_alloc|apply pw_below_drewN|apply below_drew1)|exact HB.out))) : w.heap.size ≤ gb223)); clear HB; have HB := n0_; have BK223 := n1_; have GW223 := n2_; have GE223 := n3_; clear n0_ n1_ n2_ n3_; clear hb hbox hg; have hcz12_0 : w11.cell? ⟨gb223, 0, none⟩ = some (.int .i64 a0_0) := (blk_cell BK223.out 0).trans rfl; have hcz12_1 : w11.cell? ⟨gb223, 1, none⟩ = some (.slice A0_1 l0_1.length c0_1) := (blk_cell BK223.out 1).trans rfl; have hcz12_2 : w11.cell? ⟨gb223, 2, none⟩ = some (.slice A0_2 l0_2.length c0_2) := (blk_cell BK223.out 2).trans rfl; have hfz12_0 := blk_frozen BK223.out 0; have hfz12_1 := blk_frozen BK223.out 1; have hfz12_2 := blk_frozen BK223.out 2)|((with_reducible refine gate_callee (f := 29) rfl ?_); refine goesL_ (some 6) rfl rfl Tryz.func29 (by kernel_rfl) rfl #[.agg #[.int .i64 a0_0, .slice A0_1 l0_1.length c0_1, .slice A0_2 l0_2.length c0_2]] rfl (by (try simp only [List.map_toArray, List.map_cons, List.map_nil]); first|done|rfl|(simp only [List.length_drop, List.length_take]; rfl)) ?_; (with_reducible refine (response_wrong.calls k a0_0 _ _ l0_1 _ _ l0_2 t224 _ ?side1 ?side2 ?side3 ?side4 A2.out).mono ?_); (case side1 => repeat (first|exact (Kd.C_below HR0_1.out HB.out)|(with_reducible refine Kd.C_alloc ?_ _)|(with_reducible refine Kd.C_drewN ?_ _)|(with_reducible refine Kd.C_drew ?_))); (case side2 => exact HC0_1.out); (case side3 => repeat (first|exact (Kd.C_below HR0_2.out HB.out)|(with_reducible refine Kd.C_alloc ?_ _)|(with_reducible refine Kd.C_drewN ?_ _)|(with_reducible refine Kd.C_drew ?_))); (case side4 => exact HC0_2.out); rintro e w13 ⟨rfl, hb⟩; refine ⟨_, rfl, ?_⟩; have n0_ := Aside0.mk (blk_below (g := gb223) (o := .cells #[.int .i64 a0_0, .slice A0_1 l0_1.length c0_1, .slice A0_2 l0_2.length c0_2] 26 (0, 0)) (by (with_reducible repeat (first|refine blk_drewN ?_ _|refine blk_drew ?_|refine blk_alloc ?_ _)); exact BK223.out) hb); have n1_ := Aside0.mk (below_step (by repeat (first|(with_reducible first|exact HB.out|apply below_alloc|apply pw_below_drewN|apply below_drew1|refine below_set ?_ GE223.out)|exact HB.out)) hb); clear BK223; clear HB; have BK223 := n0_; have HB := n1_; clear n0_ n1_; (try clear hb); (try clear hb2); (try clear hk); (try clear hi); have hcz14_0 : w13.cell? ⟨gb223, 0, none⟩ = some (.int .i64 a0_0) := (blk_cell BK223.out 0).trans rfl; have hcz14_1 : w13.cell? ⟨gb223, 1, none⟩ = some (.slice A0_1 l0_1.length c0_1) := (blk_cell BK223.out 1).trans rfl; have hcz14_2 : w13.cell? ⟨gb223, 2, none⟩ = some (.slice A0_2 l0_2.length c0_2) := (blk_cell BK223.out 2).trans rfl; have hfz14_0 := blk_frozen BK223.out 0; have hfz14_1 := blk_frozen BK223.out 1; have hfz14_2 := blk_frozen BK223.out 2))
    have n0_ := Aside0.mk (blk_drew BK223.out)
    have n1_ := Aside0.mk (below_drew1 HB.out)
    clear BK223
    clear HB
    have BK223 := n0_
    have HB := n1_
    clear n0_ n1_
    refine start_ (n := 10) (S := fun w' => w'.cell? ⟨gb223, 0, none⟩ = some (.int .i64 a0_0) ∧ w'.cell? ⟨gb223, 1, none⟩ = some (.slice A0_1 l0_1.length c0_1) ∧ w'.cell? ⟨gb223, 2, none⟩ = some (.slice A0_2 l0_2.length c0_2)) (ds := []) #[false, false, false, false, false, false, false, false, false, false] (by kernel_rfl) rfl rfl ⟨(blk_cell BK223.out 0).trans rfl, (blk_cell BK223.out 1).trans rfl, (blk_cell BK223.out 2).trans rfl⟩ (fun hHeld => ?_); refine with_tabW response_Bytes.tab6 response_Bytes.bits6 (fun HT_ HW_ => ?_)
    generalize w13.drew = w15 at BK223 HB hHeld ⊢
    refine pure_ (i := 1) (N := some 15) (v := ?_) (a' := ?_) #[false, true, false, false, false, false, false, false, false, false] rfl rfl (any_of HT_.out (by kernel_rfl)) (fun _ _ _ h => h) (Or.inl ⟨by rfl, ?_⟩) ?_ ?_
    rotate_left
    ·intro w'
     go_simp
     with_reducible rfl
    rotate_left
    ·simp only [Act.put, List.setIfInBounds_toArray, List.set_cons_zero, List.set_cons_succ, i64_w, i32_w]
     rfl
    refine pure_ (i := 5) (N := some 19) (v := ?_) (a' := ?_) #[false, true, false, false, false, true, false, false, false, false] rfl rfl (any_of HT_.out (by kernel_rfl)) (fun _ _ _ h => h) (Or.inl ⟨by rfl, ?_⟩) ?_ ?_
    rotate_left
    ·intro w'
     go_simp
     with_reducible rfl
    rotate_left
    ·simp only [Act.put, List.setIfInBounds_toArray, List.set_cons_zero, List.set_cons_succ, i64_w, i32_w]
     rfl
    refine take_ (i := 0) (N := some 14) (v := ?_) (a' := ?_) #[true, true, false, false, false, true, false, false, false, false] rfl rfl (take_ofW HT_.out HW_.out (by kernel_rfl)) (fun _ _ _ h => h) (Or.inl ⟨by rfl, ?_⟩) hHeld ?_ ?_
    rotate_left
    ·rintro w' ⟨s0, s1, s2⟩
     go_simp
     with_reducible rfl
    rotate_left
    ·simp only [Act.put, List.setIfInBounds_toArray, List.set_cons_zero, List.set_cons_succ, i64_w, i32_w]
     rfl
    refine take_ (i := 2) (N := some 16) (v := ?_) (a' := ?_) #[true, true, true, false, false, true, false, false, false, false] rfl rfl (take_ofW HT_.out HW_.out (by kernel_rfl)) (fun _ _ _ h => h) (Or.inl ⟨by rfl, ?_⟩) hHeld ?_ ?_
    rotate_left
    ·rintro w' ⟨s0, s1, s2⟩
     go_simp
     with_reducible rfl
    rotate_left
    ·simp only [Act.put, List.setIfInBounds_toArray, List.set_cons_zero, List.set_cons_succ, i64_w, i32_w]
     rfl
    refine pure_ (i := 3) (N := some 17) (v := ?_) (a' := ?_) #[true, true, true, true, false, true, false, false, false, false] rfl rfl (any_of HT_.out (by kernel_rfl)) (fun _ _ _ h => h) (Or.inl ⟨by rfl, ?_⟩) ?_ ?_
    rotate_left
    ·intro w'
     go_simp
     with_reducible rfl
    rotate_left
    ·simp only [Act.put, List.setIfInBounds_toArray, List.set_cons_zero, List.set_cons_succ, i64_w, i32_w]
     rfl
    refine take_ (i := 6) (N := some 20) (v := ?_) (a' := ?_) #[true, true, true, true, false, true, true, false, false, false] rfl rfl (take_ofW HT_.out HW_.out (by kernel_rfl)) (fun _ _ _ h => h) (Or.inl ⟨by rfl, ?_⟩) hHeld ?_ ?_
    rotate_left
    ·rintro w' ⟨s0, s1, s2⟩
     go_simp
     with_reducible rfl
    rotate_left
    ·simp only [Act.put, List.setIfInBounds_toArray, List.set_cons_zero, List.set_cons_succ, i64_w, i32_w]
     rfl
    refine one_ (i := 4) (N := some 18) #[true, true, true, true, true, true, true, false, false, false] rfl rfl (one_of HT_.out (by kernel_rfl)) (by decide) (fun K hK => ?_)
    refine goes_ Tryz.func30 (by kernel_rfl) rfl #[.agg #[.int .i64 a0_0, .slice A0_1 l0_1.length c0_1, .slice A0_2 l0_2.length c0_2], .int .i64 (l0_2.length : Int)] (by rfl) rfl rfl (by (try simp only [List.map_toArray, List.map_cons, List.map_nil]); first|done|rfl|(simp only [List.length_drop, List.length_take]; rfl)) ?_
    with_reducible refine (response_head.calls a0_0 _ _ l0_1 _ _ l0_2 (l0_2.length : Int) t225 _ ?side1 ?side2 ?side3 ?side4 ?side5 A9.out).mono ?_
    (case side1 => first|exact HG.out|exact GM.below (by repeat (first|(with_reducible first|exact HB.out|apply below_alloc|apply pw_below_drewN|apply below_drew1|refine below_set ?_ GE223.out)|exact HB.out)) HG.out|(repeat (first|exact HG.out|apply GM.drewN|apply GM.drew)))
    (case side2 => repeat (first|exact (Kd.C_below HR0_1.out HB.out)|(with_reducible refine Kd.C_alloc ?_ _)|(with_reducible refine Kd.C_drewN ?_ _)|(with_reducible refine Kd.C_drew ?_)))
    (case side3 => exact HC0_1.out)
    (case side4 => repeat (first|exact (Kd.C_below HR0_2.out HB.out)|(with_reducible refine Kd.C_alloc ?_ _)|(with_reducible refine Kd.C_drewN ?_ _)|(with_reducible refine Kd.C_drew ?_)))
    (case side5 => exact HC0_2.out)
    rintro e w16 ⟨v226, rfl, ho0, hb⟩
    refine ⟨_, rfl, ?_⟩
    have n0_ := Aside0.mk (Kd.R_lower ho0 (below_size (by repeat (first|(with_reducible first|exact HB.out|apply below_alloc|apply pw_below_drewN|apply below_drew1|refine below_set ?_ GE223.out)|exact HB.out))))
    have n1_ := Aside0.mk (blk_below (g := gb223) (o := .cells #[.int .i64 a0_0, .slice A0_1 l0_1.length c0_1, .slice A0_2 l0_2.length c0_2] 26 (0, 0)) (by (with_reducible repeat (first|refine blk_drewN ?_ _|refine blk_drew ?_|refine blk_alloc ?_ _)); exact BK223.out) hb)
    have n2_ := Aside0.mk (below_step (by repeat (first|(with_reducible first|exact HB.out|apply below_alloc|apply pw_below_drewN|apply below_drew1|refine below_set ?_ GE223.out)|exact HB.out)) hb)
    clear BK223
    clear HB
    have HO227 := n0_
    have BK223 := n1_
    have HB := n2_
    clear n0_ n1_ n2_
    (try clear hb)
    (try clear hb2)
    (try clear hk)
    (try clear hi)
    (try clear ho0)
    refine hK.out _ _ ⟨(blk_cell BK223.out 0).trans rfl, (blk_cell BK223.out 1).trans rfl, (blk_cell BK223.out 2).trans rfl⟩ (fun hHeld => ?_)
    clear hK K
    refine norm_ (a' := ?_) ?_ ?_
    rotate_left
    ·show Act.put _ (some 18) _ = _
     simp only [Act.put, List.setIfInBounds_toArray, List.set_cons_zero, List.set_cons_succ, i64_w, i32_w]
     rfl
    refine one_ (i := 7) (N := some 21) #[true, true, true, true, true, true, true, true, false, false] rfl rfl (one_of HT_.out (by kernel_rfl)) (by decide) (fun K hK => ?_)
    refine Kd.R_append_rows_step (Kd.int .u8) (w0 := w) w.heap.size (by rfl) (.tmp 18) (.tmp 20) 22 5 (.int .u8 0) 1 rfl Tryz.underlying22 info5 rfl (by decide) (by omega) v226 t225 l0_2 _ _ _ (fun _ => True) (fun _ => False) rfl rfl ?aO ?aR (fun _ _ h => h) (fun _ h => h.elim) ?aF ?aB ?aS ?aL ?_
    (case aR => repeat (first|exact (Kd.C_below HR0_2.out HB.out)|(with_reducible refine Kd.C_alloc ?_ _)|(with_reducible refine Kd.C_drewN ?_ _)|(with_reducible refine Kd.C_drew ?_)))
    (case aB => exact (by repeat (first|(with_reducible first|exact HB.out|apply below_alloc|apply pw_below_drewN|apply below_drew1|refine below_set ?_ GE223.out)|exact HB.out)))
    (case aF => exact (fun _ _ => trivial))
    (case aO => exact (by (with_reducible repeat (first|apply Kd.R_alloc|apply Kd.R_drewN|apply Kd.R_drew)); exact HO227.out))
    (case aS => exact (below_size (by repeat (first|(with_reducible first|exact HB.out|apply below_alloc|apply pw_below_drewN|apply below_drew1|refine below_set ?_ GE223.out)|exact HB.out))))
    (case aL => have := LMc10.out; omega)
    intro v229 w17 ho hb hg hat
    rw [← Ny228.out] at ho
    have n0_ := Aside0.mk (blk_grown (g := gb223) (o := .cells #[.int .i64 a0_0, .slice A0_1 l0_1.length c0_1, .slice A0_2 l0_2.length c0_2] 26 (0, 0)) (by (with_reducible repeat (first|refine blk_drewN ?_ _|refine blk_drew ?_|refine blk_alloc ?_ _)); exact BK223.out) hg (Kd.R_ne HO227.out BK223.out (by decide)))
    have n1_ := Aside0.mk (hb)
    have n2_ := Aside0.mk (ho)
    clear BK223
    clear HB
    clear HO227
    have BK223 := n0_
    have HB := n1_
    have HO230 := n2_
    clear n0_ n1_ n2_
    clear ho hb hg hat
    refine hK.out _ _ ⟨(blk_cell BK223.out 0).trans rfl, (blk_cell BK223.out 1).trans rfl, (blk_cell BK223.out 2).trans rfl⟩ (fun hHeld => ?_)
    clear hK K
    refine norm_ (a' := ?_) ?_ ?_
    rotate_left
    ·show Act.put _ (some 21) _ = _
     simp only [Act.put, List.setIfInBounds_toArray, List.set_cons_zero, List.set_cons_succ, i64_w, i32_w]
     rfl
    refine pure_ (i := 8) (N := some 2) (v := ?_) (a' := ?_) #[true, true, true, true, true, true, true, true, true, false] rfl rfl (any_of HT_.out (by kernel_rfl)) (fun _ _ _ h => h) (Or.inl ⟨by rfl, ?_⟩) ?_ ?_
    rotate_left
    ·intro w'
     go_simp
     with_reducible rfl
    rotate_left
    ·simp only [Act.put, List.setIfInBounds_toArray, List.set_cons_zero, List.set_cons_succ, i64_w, i32_w]
     rfl
    refine pure_ (i := 9) (N := some 3) (v := ?_) (a' := ?_) #[true, true, true, true, true, true, true, true, true, true] rfl rfl (any_of HT_.out (by kernel_rfl)) (fun _ _ _ h => h) (Or.inl ⟨by rfl, ?_⟩) ?_ ?_
    rotate_left
    ·intro w'
     go_simp
     with_reducible rfl
    rotate_left
    ·simp only [Act.put, List.setIfInBounds_toArray, List.set_cons_zero, List.set_cons_succ, i64_w, i32_w]
     rfl
    refine done_ (done_of HT_.out (by kernel_rfl)) ?_
    try go_wp2
    go_ret2
    exact ⟨_, by first|rfl|(simp [errW_none, errW_some] <;> rfl)|(simp [*, errW_none, errW_some] <;> rfl), by (with_reducible repeat (first|apply Kd.R_alloc|apply Kd.R_drewN|apply Kd.R_drew)); exact HO230.out, by repeat (first|(with_reducible first|exact HB.out|apply below_alloc|apply pw_below_drewN|apply below_drew1|refine below_set ?_ GE223.out)|exact HB.out)⟩
   ·rw [if_neg c10] at H
    exact absurd H (by simp)
 ·rw [if_neg c3] at H
  have c3b0 : (t224 == 0) = false := beq_eq_false_iff_ne.mpr c3
  have c3b1 : (t224 != 0) = true := bne_iff_ne.mpr c3
  simp only [Option.some.injEq, Prod.mk.injEq] at H
  obtain ⟨rfl, rfl⟩ := H
  go_enter Tryz.func14, Tryz.ntmps14
  go_wp2_with (first|((with_reducible refine gate_dst (N := 1) rfl ?_); refine box_event ?hg (N := 1) ?hd (cs := #[.int .i64 a0_0, .slice A0_1 l0_1.length c0_1, .slice A0_2 l0_2.length c0_2]) (t := 26) ?hr ?_; (case hd => rfl); (case hg => rfl); (case hr => first|(go_simp; done)|(go_simp; rfl)); intro gb223 hg w18 hbox hb; have n0_ := Aside0.mk (below_step (by repeat (first|(with_reducible first|exact HB.out|apply below_alloc|apply pw_below_drewN|apply below_drew1)|exact HB.out)) hb); have n1_ := Aside0.mk (hbox); have n2_ := Aside0.mk ((by rw [hg]; exact (below_size (by repeat (first|(with_reducible first|exact HB.out|apply below_alloc|apply pw_below_drewN|apply below_drew1)|exact HB.out))) : w.heap.size ≤ gb223)); have n3_ := Aside0.mk ((by rw [hg]; exact (below_size (by repeat (first|(with_reducible first|exact HB.out|apply below_alloc|apply pw_below_drewN|apply below_drew1)|exact HB.out))) : w.heap.size ≤ gb223)); clear HB; have HB := n0_; have BK223 := n1_; have GW223 := n2_; have GE223 := n3_; clear n0_ n1_ n2_ n3_; clear hb hbox hg; have hcz19_0 : w18.cell? ⟨gb223, 0, none⟩ = some (.int .i64 a0_0) := (blk_cell BK223.out 0).trans rfl; have hcz19_1 : w18.cell? ⟨gb223, 1, none⟩ = some (.slice A0_1 l0_1.length c0_1) := (blk_cell BK223.out 1).trans rfl; have hcz19_2 : w18.cell? ⟨gb223, 2, none⟩ = some (.slice A0_2 l0_2.length c0_2) := (blk_cell BK223.out 2).trans rfl; have hfz19_0 := blk_frozen BK223.out 0; have hfz19_1 := blk_frozen BK223.out 1; have hfz19_2 := blk_frozen BK223.out 2)|((with_reducible refine gate_callee (f := 29) rfl ?_); refine goesL_ (some 6) rfl rfl Tryz.func29 (by kernel_rfl) rfl #[.agg #[.int .i64 a0_0, .slice A0_1 l0_1.length c0_1, .slice A0_2 l0_2.length c0_2]] rfl (by (try simp only [List.map_toArray, List.map_cons, List.map_nil]); first|done|rfl|(simp only [List.length_drop, List.length_take]; rfl)) ?_; (with_reducible refine (response_wrong.calls k a0_0 _ _ l0_1 _ _ l0_2 t224 _ ?side1 ?side2 ?side3 ?side4 A2.out).mono ?_); (case side1 => repeat (first|exact (Kd.C_below HR0_1.out HB.out)|(with_reducible refine Kd.C_alloc ?_ _)|(with_reducible refine Kd.C_drewN ?_ _)|(with_reducible refine Kd.C_drew ?_))); (case side2 => exact HC0_1.out); (case side3 => repeat (first|exact (Kd.C_below HR0_2.out HB.out)|(with_reducible refine Kd.C_alloc ?_ _)|(with_reducible refine Kd.C_drewN ?_ _)|(with_reducible refine Kd.C_drew ?_))); (case side4 => exact HC0_2.out); rintro e w20 ⟨rfl, hb⟩; refine ⟨_, rfl, ?_⟩; have n0_ := Aside0.mk (blk_below (g := gb223) (o := .cells #[.int .i64 a0_0, .slice A0_1 l0_1.length c0_1, .slice A0_2 l0_2.length c0_2] 26 (0, 0)) (by (with_reducible repeat (first|refine blk_drewN ?_ _|refine blk_drew ?_|refine blk_alloc ?_ _)); exact BK223.out) hb); have n1_ := Aside0.mk (below_step (by repeat (first|(with_reducible first|exact HB.out|apply below_alloc|apply pw_below_drewN|apply below_drew1|refine below_set ?_ GE223.out)|exact HB.out)) hb); clear BK223; clear HB; have BK223 := n0_; have HB := n1_; clear n0_ n1_; (try clear hb); (try clear hb2); (try clear hk); (try clear hi)))
  go_ret2
  exact ⟨_, by first|rfl|(simp [errW_none, errW_some] <;> rfl)|(simp [*, errW_none, errW_some] <;> rfl), by first|exact Kd.R_nil _ _ _ _ _|exact Kd.N_nil _ _ _ _ _|exact Kd.V_nil _ _ _ _ _|exact Kd.Q_nil _ _ _ _ _|exact Kd.S_nil _ _ _ _ _, by repeat (first|(with_reducible first|exact HB.out|apply below_alloc|apply pw_below_drewN|apply below_drew1|refine below_set ?_ GE223.out)|exact HB.out)⟩

end Go.Proofs.YtmgpbcpggnlkkaaGreatDoor.Pr
end
