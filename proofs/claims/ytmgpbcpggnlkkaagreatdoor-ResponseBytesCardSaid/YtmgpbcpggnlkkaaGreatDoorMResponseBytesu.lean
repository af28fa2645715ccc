/- Texts of this proof, put together: Wy27. -/
import Derived.Test.YtmgpbcpggnlkkaaGreatDoorMResponseBytesq
import Derived.Test.YtmgpbcpggnlkkaaGreatDoorMResponseBytest
import Derived.Test.YtmgpbcpggnlkkaaGreatDoorMResponseBytesl
section
/- ResponseBytes, by its walk. -/
namespace Go.Proofs.YtmgpbcpggnlkkaaGreatDoor
open Go.ChangeShapes Go.WideShapes Go.ChangeAt Go.RowKit Go.Proofs.YtmgpbcpggnlkkaaGreatDoorW.PrintWords Go.Proofs.YtmgpbcpggnlkkaaGreatDoorW.PrintLast Go.Proofs.YtmgpbcpggnlkkaaGreatDoorW.PrintMore
set_option linter.unusedVariables false
set_option linter.unusedSimpArgs false
theorem large_l0 (st : Int) (l : List SPair) (b : List Int) (hl : l.length ≤ 1000000) : ∀ (d k j : Nat), j + d = l.length → d < k →
    ∃ r, Pr.stowagekit_LargeResponse.l0 k (j : Int) st l b = some r ∧ (r = false → ∀ p ∈ l.drop j, p.f0.size ≤ 1100 ∧ p.f1.size ≤ 1100) := by
  intro d
  induction d with
  | zero =>
    intro k j hj hk
    obtain ⟨k, rfl⟩ : ∃ n, k = n + 1 := ⟨k - 1, by omega⟩
    refine ⟨false, ?_, fun _ p hp => ?_⟩
    · simp only [Pr.stowagekit_LargeResponse.l0]
      rw [if_neg (by omega)]
    · rw [List.drop_of_length_le (by omega)] at hp
      cases hp
  | succ d ih =>
    intro k j hj hk
    obtain ⟨k, rfl⟩ : ∃ n, k = n + 1 := ⟨k - 1, by omega⟩
    have hjl : j < l.length := by omega
    obtain ⟨r, hr, h⟩ := ih k (j + 1) (by omega) (by omega)
    simp only [Pr.stowagekit_LargeResponse.l0]
    rw [if_pos (by omega), if_pos (by omega), rdP l j hjl, wup j l.length (by omega) (by omega), hr]
    by_cases h1 : 1100 < l[j].f0.size
    · exact ⟨true, by rw [if_pos (by omega)], fun h => by cases h⟩
    · by_cases h2 : 1100 < l[j].f1.size
      · exact ⟨true, by rw [if_neg (by omega), if_pos (by omega)], fun h => by cases h⟩
      · refine ⟨r, by rw [if_neg (by omega), if_neg (by omega)], fun hf p hp => ?_⟩
        rw [List.drop_eq_getElem_cons hjl] at hp
        rcases List.mem_cons.1 hp with rfl | hp
        · exact ⟨by omega, by omega⟩
        · exact h hf p hp
theorem large_f (st : Int) (l : List SPair) (b : List Int) (k : Nat) (hk : 43 ≤ k) :
    ∃ r, Pr.stowagekit_LargeResponse.f k st l b = some r ∧ (r = false → l.length ≤ 40 ∧ b.length ≤ 3000 ∧ ∀ p ∈ l, p.f0.size ≤ 1100 ∧ p.f1.size ≤ 1100) := by
  obtain ⟨k, rfl⟩ : ∃ n, k = n + 1 := ⟨k - 1, by omega⟩
  simp only [Pr.stowagekit_LargeResponse.f]
  by_cases h1 : 40 < l.length
  · refine ⟨true, ?_, fun h => by cases h⟩
    rw [if_pos (by omega)]
    simp [Pr.stowagekit_LargeResponse.j0]
  · rw [if_neg (by omega)]
    by_cases h2 : 3000 < b.length
    · refine ⟨true, ?_, fun h => by cases h⟩
      rw [decide_eq_true (by omega)]
      simp [Pr.stowagekit_LargeResponse.j0]
    · rw [decide_eq_false (by omega)]
      simp only [Pr.stowagekit_LargeResponse.j0]
      rw [if_neg (by decide)]
      obtain ⟨r, hr, h⟩ := large_l0 st l b (by omega) l.length k 0 (by omega) (by omega)
      exact ⟨r, hr, fun hf => ⟨by omega, by omega, fun p hp => h hf p (by simpa using hp)⟩⟩
theorem copyresp_f (st : Int) (l : List SPair) (b : List Int) (hl : l.length ≤ 100000) (hb : b.length ≤ 100000) : Pr.stowagekit_CopyResponse.f st l b = some (st, l, b) := by
  unfold Pr.stowagekit_CopyResponse.f Pr.stowagekit_CopyBytes.f
  rw [Option.bind_some, if_pos (by simp; omega), Option.bind_some, if_pos (by simp; omega), Option.bind_some, List.nil_append, List.nil_append]
theorem pwords_f (st : Int) : Pr.response_Words.f st = some (BA (wordsL st), if wordsL st = [] then 5 else 0) := by
  unfold Pr.response_Words.f
  rw [words_f, Option.bind_some, ba_toList]
  by_cases h : wordsL st = []
  · rw [if_pos h, if_pos h, h]
    rfl
  · rw [if_neg h, if_neg h, Option.bind_some]
def IsRespS (w : World) (v : Value) : Prop := ∃ (st : Int) (A1 : Option Addr) (c1 : Nat) (hs : List SPair) (A2 : Option Addr) (c2 : Nat) (b : Bs), v = .agg #[.int .i64 st, .slice A1 hs.length c1, .slice A2 b.length c2] ∧ hs.length ≤ c1 ∧ Kd.C Pr.k51 w A1 hs.length hs ∧ Src w (.slice A2 b.length c2) (Lib.byteCells b) ∧ Kd.C (Kd.int .u8) w A2 (Pr.numsL b).length (Pr.numsL b)
theorem src_of_C {w : World} {A : Option Addr} {c : Nat} {l : Bs} (h : Kd.C (Kd.int .u8) w A (Pr.numsL l).length (Pr.numsL l)) (hc : (Pr.numsL l).length ≤ c) (hn : A = none → c = 0) : Src w (.slice A l.length c) (Lib.byteCells l) := by
  by_cases hl : l = []
  · subst hl
    exact .inl ⟨A, c, rfl, hn, rfl⟩
  · have hpos : 0 < (Pr.numsL l).length := by rw [nums_len]; exact List.length_pos_iff.2 hl
    obtain ⟨ad, rfl, hcl⟩ := h.2.2 hpos
    have hcell : ∀ j n, (Pr.numsL l)[j]? = some n → w.cell? (ad.add j) = some (.int .u8 n) := fun j n hj => by
      obtain ⟨c, _, hc, hcc⟩ := hcl j n hj
      have hc' : c = [Value.int .u8 n] := hc
      subst hc'
      have := hcc 0 (.int .u8 n) rfl
      simpa [Kd.int, Kd.scalar] using this
    have hsp : ad.spot = none := by
      have h0 := hcell 0 (Pr.numsL l)[0] (List.getElem?_eq_getElem hpos)
      cases ad with
      | mk b o s =>
        cases s with
        | none => rfl
        | some z =>
          simp only [World.cell?, Addr.add] at h0
          split at h0 <;> simp at h0
    obtain ⟨b, o, sp⟩ := ad
    simp only at hsp
    subst hsp
    refine .inr ⟨b, o, c, by rw [bc_len], by rw [bc_len, ← nums_len]; exact hc, fun j x hj => ?_⟩
    rw [Pr.cells_of, List.getElem?_map] at hj
    obtain ⟨n, hn, rfl⟩ := Option.map_eq_some_iff.1 hj
    have := hcell j n hn
    cases j <;> simpa [Addr.add] using this
theorem src_of_R {w : World} {base : Nat} {ok : Nat → Prop} {A : Option Addr} {c : Nat} {l : Bs} (h : Kd.R (Kd.int .u8) 5 w base ok (.slice A l.length c) (Pr.numsL l)) : Src w (.slice A l.length c) (Lib.byteCells l) := by
  have h' := h
  rw [← nums_len] at h'
  obtain ⟨-, q1, q2⟩ := Kd.R_reads' h'
  refine src_of_C q2 q1 (fun hn => ?_)
  obtain ⟨_, cells, ho, _⟩ := h
  rcases ho.2 with ⟨he, _⟩ | ⟨g, cap, cur, he, _⟩
  · injection he
  · subst hn
    cases he
theorem resp_none {H : Type} {enc : TypeId × Value → H} {w : World} {base : Nat} {held : Bool} {d : DataW H} {p : List MemPlace} {st : Int} {A1 A2 : Option Addr} {n1 c1 n2 c2 : Nat} (h : DataW.Trod enc Tryz.prog w base (fun _ => true) held 26 (.agg #[.int .i64 st, .slice A1 n1 c1, .slice A2 n2 c2]) d p) : A2 = none → c2 = 0 := by
  obtain ⟨fuel, hf⟩ := h
  obtain ⟨xs, n, _, _, hl, hxl, hff⟩ := DataW.trod_struct Tryz.underlying26 hf
  have h2 := hff 2 _ rfl
  have hil : 2 < xs.length := by rw [hxl]; decide
  rw [List.getElem?_eq_getElem hil] at h2
  have hc1 : Tryz.prog.cellsOf 22 = 1 := by kernel_rfl
  have h3 : DataW.trod enc Tryz.prog w base (fun _ => true) held n 22 [.slice A2 n2 c2] = some xs[2] := by
    have h4 : DataW.trod enc Tryz.prog w base (fun _ => true) held n 22 (List.take (Tryz.prog.cellsOf 22) (List.drop 2 (Value.agg #[.int .i64 st, .slice A1 n1 c1, .slice A2 n2 c2]).cells.toList)) = some xs[2] := h2
    rw [hc1] at h4
    exact h4
  rcases DataW.trod_slice Tryz.underlying22 h3 with ⟨he, _⟩ | ⟨a, len, cap, elems, rest, n', _, he, _⟩
  · intro _
    cases he
    rfl
  · intro hn
    subst hn
    cases he
set_option maxRecDepth 10000 in
theorem open_respS {H : Type} {enc : TypeId × Value → H} {w : World} {base b0 : Nat} {held : Bool} {r : Reach} {v : Value} {d : DataW H} {p : List MemPlace} (hv : Value.okWide Tryz.prog w r b0 26 v) (h : DataW.Trod enc Tryz.prog w base (fun _ => true) held 26 v d p) : IsRespS w v := by
  obtain ⟨st, A1, c1, hs, A2, c2, b, rfl, h1, h2, h3, h4⟩ := open_resp hv h
  have hn := resp_none h
  exact ⟨st, A1, c1, hs, A2, c2, b, by rw [nums_len], h1, h2, src_of_C h4 h3 hn, h4⟩
set_option maxHeartbeats 4000000 in
set_option maxRecDepth 10000 in
theorem bytes_walk (v0 : Value) (status : Int) (w : World) (hG : Pr.GM w) (h0 : IsRespS w v0) : Calls Tryz.prog 4 #[v0, .int .i64 status] w fun e w' => e = .returned (.bool true) ∧ Below w.heap.size w w' := by
  obtain ⟨st, A1, c1, hs, A2, c2, b, rfl, hc1, hr, hb, hbC⟩ := h0
  have hw1 : Below w.heap.size w (w.alloc (.cells #[.int .i64 st, .slice A1 hs.length c1, .slice A2 b.length c2] 26)) := (Below.refl _ w).alloc (Nat.le_refl _) _
  obtain ⟨lg, hlg, hlgf⟩ := large_f st hs (Pr.numsL b) 100 (by omega)
  have hlw := Pr.stowagekit_LargeResponse.calls 100 st A1 c1 hs A2 c2 (Pr.numsL b) lg (w.alloc (.cells #[.int .i64 st, .slice A1 hs.length c1, .slice A2 b.length c2] 26)) (Kd.C_alloc hr _) hc1 (Kd.C_alloc hbC _) (c_room hb) hlg
  rw [nums_len] at hlw
  obtain ⟨u, g, hpw, hrw⟩ : ∃ u g, Pr.response_Words.f status = some (u, g) ∧ Pr.stowageref27_Words.f status = some (u, g) := ⟨_, _, pwords_f status, rwords_f status⟩
  have HPW := Lib.hid hpw
  have HRW := Lib.hid hrw
  clear hpw hrw
  have HB := Lib.hid hb
  have HR := Lib.hid hr
  have HG := Lib.hid hG
  have HLF := Lib.hid hlgf
  have HBC := Lib.hid hbC
  clear hb hr hG hlg hlgf hbC
  go_enter Tryz.func4, Tryz.ntmps4
  go_wp2_with fail
  refine hlw.mono ?_
  clear hlw
  rintro e w2 ⟨rfl, hb2⟩
  have hbx : w2.heap[w.heap.size]? = some (.cells #[.int .i64 st, .slice A1 hs.length c1, .slice A2 b.length c2] 26 (0, 0)) := (hb2.block _ (by simp)).trans (heap_alloc_new _ _)
  have HB2 := Lib.hid (hw1.trans (hb2.mono hw1.size))
  have hsz2 : w.heap.size < w2.heap.size := by have := hb2.size; simp at this; omega
  clear hb2 hw1
  cases lg with
  | true =>
    go_wp2
    go_ret
    exact ⟨rfl, HB2.out⟩
  | false =>
    obtain ⟨s1, s2, s3⟩ := HLF.out rfl
    rw [nums_len] at s2
    have hsz : ∀ p ∈ hs, p.f0.size ≤ 2000 ∧ p.f1.size ≤ 2000 := fun p hp => by have := s3 p hp; omega
    have hcr := Pr.stowagekit_CopyResponse.calls st A1 c1 hs A2 c2 (Pr.numsL b) st hs (Pr.numsL b) w2 (Kd.C_below HR.out HB2.out) hc1 (Kd.C_below HBC.out HB2.out) (c_room HB.out) (copyresp_f st hs (Pr.numsL b) (by omega) (by rw [nums_len]; omega))
    rw [nums_len] at hcr
    have HS3 := Lib.hid s3
    have HSZ := Lib.hid hsz
    clear s3 hsz
    have a0 : w2.cell? ⟨w.heap.size, 0, none⟩ = some (.int .i64 st) := by rw [blk_cell hbx]; rfl
    have a1 : w2.cell? ⟨w.heap.size, 1, none⟩ = some (.slice A1 hs.length c1) := by rw [blk_cell hbx]; rfl
    have a2 : w2.cell? ⟨w.heap.size, 2, none⟩ = some (.slice A2 b.length c2) := by rw [blk_cell hbx]; rfl
    go_wp2_with fail
    refine hcr.mono ?_
    clear hcr a0 a1 a2
    rintro e w3 ⟨v1, v2, rfl, k1, k2, k3⟩
    obtain ⟨Ai, ci, rfl⟩ : ∃ A c, v1 = .slice A hs.length c := Kd.R_slice k1
    obtain ⟨Aj, cj, rfl⟩ : ∃ A c, v2 = .slice A b.length c := by
      obtain ⟨A, c, h⟩ := Kd.R_slice k2
      exact ⟨A, c, by rw [h, nums_len]⟩
    obtain ⟨-, i1, i2⟩ := Kd.R_reads' k1
    have hSj := src_of_R k2
    have HB3 := Lib.hid (HB2.out.trans (k3.mono HB2.out.size))
    have hbx3 : w3.heap[w.heap.size]? = some (.cells #[.int .i64 st, .slice A1 hs.length c1, .slice A2 b.length c2] 26 (0, 0)) := (k3.block _ hsz2).trans hbx
    have hsz3 : w.heap.size < w3.heap.size := Nat.lt_of_lt_of_le hsz2 k3.size
    clear k1 k2 k3 hbx hsz2 HB2
    have hw4 : Below w3.heap.size w3 (w3.alloc (.cells #[.int .i64 st, .slice Ai hs.length ci, .slice Aj b.length cj] 26)) := (Below.refl _ _).alloc (Nat.le_refl _) _
    obtain ⟨W4, hW4⟩ : ∃ W, w3.alloc (.cells #[.int .i64 st, .slice Ai hs.length ci, .slice Aj b.length cj] 26) = W := ⟨_, rfl⟩
    have hz4 : W4.heap.size = w3.heap.size + 1 := by rw [← hW4]; simp
    have hi4 : W4.heap[w3.heap.size]? = some (.cells #[.int .i64 st, .slice Ai hs.length ci, .slice Aj b.length cj] 26 (0, 0)) := by rw [← hW4]; exact heap_alloc_new _ _
    rw [hW4] at hw4
    have HB4 := Lib.hid (HB3.out.trans (hw4.mono HB3.out.size))
    have hr4 : W4.heap[w.heap.size]? = some (.cells #[.int .i64 st, .slice A1 hs.length c1, .slice A2 b.length c2] 26 (0, 0)) := (hw4.block _ hsz3).trans hbx3
    have hby := bytes_own st Ai ci hs Aj cj b W4 (Pr.GM.below HB4.out HG.out) (Kd.C_below i2 hw4) i1 (hSj.block hw4) (by omega) HSZ.out (by omega)
    have HI2 := Lib.hid (Kd.C_below i2 hw4)
    have HSJ := Lib.hid (hSj.block hw4)
    clear i2 hSj hw4 hbx3
    have b0 : W4.cell? ⟨w3.heap.size, 0, none⟩ = some (.int .i64 st) := by rw [blk_cell hi4]; rfl
    have b1 : W4.cell? ⟨w3.heap.size, 1, none⟩ = some (.slice Ai hs.length ci) := by rw [blk_cell hi4]; rfl
    have b2 : W4.cell? ⟨w3.heap.size, 2, none⟩ = some (.slice Aj b.length cj) := by rw [blk_cell hi4]; rfl
    go_wp2_with fail
    refine hby.mono ?_
    clear hby b0 b1 b2 hW4
    rintro e w5 ⟨vx, rfl, hO, hb5⟩
    obtain ⟨X, hX⟩ : ∃ X, bytesP st (hs.map pairL) b = X := ⟨_, rfl⟩
    rw [hX] at hO
    have HB5 := Lib.hid (HB4.out.trans (hb5.mono HB4.out.size))
    have hi5 := (hb5.block _ (by omega)).trans hi4
    have hr5 := (hb5.block _ (by omega)).trans hr4
    have H45 := Lib.hid hb5
    have HO5 := Lib.hid hO
    have hz5 := hb5.size
    have hrb := rbytes_any st A1 c1 hs A2 c2 b w5 (Kd.C_below HR.out HB5.out) hc1 (HB.out.block HB5.out) (by omega) HSZ.out (by omega)
    clear hb5 hi4 hr4 hO
    have r0 : w5.cell? ⟨w.heap.size, 0, none⟩ = some (.int .i64 st) := by rw [blk_cell hr5]; rfl
    have r1 : w5.cell? ⟨w.heap.size, 1, none⟩ = some (.slice A1 hs.length c1) := by rw [blk_cell hr5]; rfl
    have r2 : w5.cell? ⟨w.heap.size, 2, none⟩ = some (.slice A2 b.length c2) := by rw [blk_cell hr5]; rfl
    rw [hX]
    go_wp2_with fail
    refine hrb.mono ?_
    clear hrb r0 r1 r2
    rintro e w6 ⟨vy, rfl, hS, hb6⟩
    rw [hX] at hS ⊢
    have HX := Lib.hid hX
    clear hX
    have HB6 := Lib.hid (HB5.out.trans (hb6.mono HB5.out.size))
    have hi6 := (hb6.block _ (by omega)).trans hi5
    have hr6 := (hb6.block _ (by omega)).trans hr5
    have H46 := Lib.hid (H45.out.trans (hb6.mono H45.out.size))
    have HO6 := Lib.hid (HO5.out.below hb6)
    have HS6 := Lib.hid hS
    have hz6 := hb6.size
    clear hb6 hi5 hr5 HO5 hS HB5 H45
    obtain ⟨x1, x2⟩ := X
    dsimp only at HO6 HS6 ⊢
    go_wp2_with fail
    refine (Pr.response_Words.calls status _ _ _ HPW.out).mono ?_
    rintro e w' ⟨rfl, ⟨nd, rfl⟩⟩
    go_wp2_with fail
    refine (Pr.stowageref27_Words.calls status _ _ _ HRW.out).mono ?_
    rintro e w' ⟨rfl, ⟨nd2, rfl⟩⟩
    have hb67 : Below w6.heap.size w6 ((w6.drewN nd).drewN nd2) := below_drewN (below_drewN (Below.refl _ w6) nd) nd2
    generalize (w6.drewN nd).drewN nd2 = w7 at hb67 ⊢
    have HB7 := Lib.hid (HB6.out.trans (hb67.mono HB6.out.size))
    have hi7 := (hb67.block _ (by omega)).trans hi6
    have hr7 := (hb67.block _ (by omega)).trans hr6
    have H47 := Lib.hid (H46.out.trans (hb67.mono H46.out.size))
    have HO7 := Lib.hid (HO6.out.below hb67)
    have hsb := same_src vx vy x1 x1 w7 (HO7.out.src) (HS6.out.block hb67)
    rw [show decide (x1 = x1) = true by simp] at hsb
    clear hb67 hi6 hr6 HO6 HS6 HB6 H46
    go_wp2_with fail
    refine hsb.mono ?_
    clear hsb
    rintro e w8 ⟨rfl, hw8⟩
    obtain rfl : w7 = w8 := hw8.symm
    clear hw8
    have hov := over_own W4.heap.size vx x1 w7 HO7.out
    go_wp2_with fail
    refine hov.mono ?_
    clear hov
    rintro e w9 ⟨rfl, hb9⟩
    have HB9 := Lib.hid (HB7.out.trans (hb9.mono HB4.out.size))
    have hi9 := (hb9.block _ (by omega)).trans hi7
    have hr9 := (hb9.block _ (by omega)).trans hr7
    have hb49 := H47.out.trans hb9
    have hsr := Pr.stowagekit_SameResponse.calls 100 st Ai ci hs Aj cj (Pr.numsL b) st A1 c1 hs A2 c2 (Pr.numsL b) true w9 (Kd.C_below HI2.out hb49) i1 (c_of_src (HSJ.out.block hb49) (by omega)) (c_room HSJ.out) (Kd.C_below HR.out HB9.out) hc1 (Kd.C_below HBC.out HB9.out) (c_room HB.out) (sresp_f st hs (Pr.numsL b) 100 (by omega) (by omega))
    rw [nums_len] at hsr
    clear hb9 hb49 hi7 hr7
    have b0 : w9.cell? ⟨w3.heap.size, 0, none⟩ = some (.int .i64 st) := by rw [blk_cell hi9]; rfl
    have b1 : w9.cell? ⟨w3.heap.size, 1, none⟩ = some (.slice Ai hs.length ci) := by rw [blk_cell hi9]; rfl
    have b2 : w9.cell? ⟨w3.heap.size, 2, none⟩ = some (.slice Aj b.length cj) := by rw [blk_cell hi9]; rfl
    have r0 : w9.cell? ⟨w.heap.size, 0, none⟩ = some (.int .i64 st) := by rw [blk_cell hr9]; rfl
    have r1 : w9.cell? ⟨w.heap.size, 1, none⟩ = some (.slice A1 hs.length c1) := by rw [blk_cell hr9]; rfl
    have r2 : w9.cell? ⟨w.heap.size, 2, none⟩ = some (.slice A2 b.length c2) := by rw [blk_cell hr9]; rfl
    go_wp2_with fail
    refine hsr.mono ?_
    clear hsr b0 b1 b2 r0 r1 r2
    rintro e w10 ⟨rfl, hb10⟩
    have HB10 := Lib.hid (HB9.out.trans (hb10.mono HB9.out.size))
    have hak := awake_any w10 (Pr.GM.below HB10.out HG.out)
    clear hb10 hi9 hr9
    go_wp2_with fail
    refine hak.mono ?_
    clear hak
    rintro e w11 ⟨rfl, hb11⟩
    have HB11 := Lib.hid (HB10.out.trans (hb11.mono HB10.out.size))
    clear hb11
    go_wp2
    go_ret
    exact ⟨rfl, HB11.out⟩
end Go.Proofs.YtmgpbcpggnlkkaaGreatDoor
end
