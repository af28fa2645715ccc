/- Texts of this proof, put together: Rs27, Rr27. -/
import Derived.Test.YtmgpbcpggnlkkaaGreatDoorMResponseReadsn
import Derived.Test.YtmgpbcpggnlkkaaGreatDoorMResponseReadso
import Derived.Test.YtmgpbcpggnlkkaaGreatDoorMResponseReadsh
import Derived.Test.YtmgpbcpggnlkkaaGreatDoorMResponseReadsj
import Derived.Test.YtmgpbcpggnlkkaaGreatDoorMResponseReadsl
section
/- Small lemmas for the walks of ResponseReads and ResponseBytes. -/
namespace Go.Proofs.YtmgpbcpggnlkkaaGreatDoor
open Go.RowKit Go.Lib Go.Proofs.YtmgpbcpggnlkkaaGreatDoorW.PrintWords Go.Proofs.YtmgpbcpggnlkkaaGreatDoorW.PrintLast Go.Proofs.YtmgpbcpggnlkkaaGreatDoorW.PrintMore
set_option linter.unusedVariables false
set_option linter.unusedSimpArgs false
theorem c_of_src {w : World} {A : Option Addr} {c : Nat} {l : Bs} (h : Src w (.slice A l.length c) (Lib.byteCells l)) (hl : l.length ≤ 1000000) : Kd.C (Kd.int .u8) w A (Pr.numsL l).length (Pr.numsL l) := by
  refine ⟨rfl, by rw [nums_len]; omega, fun hp => ?_⟩
  rw [nums_len] at hp
  rcases h with ⟨A', c', h0, _, h1⟩ | ⟨b, off, c', hu, hle, hc⟩
  · exfalso
    have : l.length = 0 := by rw [← bc_len, h1]; rfl
    omega
  · injection hu with h1 h2 h3
    subst h1
    refine ⟨_, rfl, fun j p hj => ⟨[.int .u8 p], rfl, rfl, fun i u hi => ?_⟩⟩
    have := hc j (.int .u8 p) (by rw [Pr.cells_of, List.getElem?_map, hj]; rfl)
    rcases i with _ | i
    · cases hi
      cases j <;> simpa [Addr.add, Kd.int, Kd.scalar] using this
    · simp at hi
theorem c_room {w : World} {A : Option Addr} {c : Nat} {l : Bs} (h : Src w (.slice A l.length c) (Lib.byteCells l)) : (Pr.numsL l).length ≤ c := by
  rw [nums_len]
  rcases h with ⟨A', c', h0, _, h1⟩ | ⟨b, off, c', hu, hle, hc⟩
  · have : l.length = 0 := by rw [← bc_len, h1]; rfl
    omega
  · injection hu with h1 h2 h3
    rw [bc_len] at hle
    omega
theorem src_form27 {w : World} {b : Value} {l : Bs} (hb : Src w b (Lib.byteCells l)) : ∃ A c, b = .slice A l.length c := by
  rcases hb with ⟨A, c, rfl, _, h⟩ | ⟨b, off, c, hu, _, _⟩
  · exact ⟨A, c, by rw [show l.length = 0 by rw [← bc_len, h]; rfl]⟩
  · exact ⟨_, c, by rw [hu, bc_len]⟩
theorem spairs_l0 (l : List SPair) (hl : l.length ≤ 1000000) : ∀ (d k j : Nat), j + d = l.length → d < k → Pr.stowagekit_SamePairs.l0 k l l (j : Int) = some true
  | d, 0, j, _, h => by omega
  | 0, k + 1, j, hj, _ => by
    simp only [Pr.stowagekit_SamePairs.l0]
    rw [if_neg (by omega)]
  | d + 1, k + 1, j, hj, hk => by
    simp only [Pr.stowagekit_SamePairs.l0]
    rw [if_pos (by omega), if_pos (by omega), if_pos (by omega), if_neg (by simp), wup j l.length (by omega) (by omega)]
    exact spairs_l0 l hl d k (j + 1) (by omega) (by omega)
theorem sresp_f (st : Int) (l : List SPair) (b : List Int) (k : Nat) (hl : l.length ≤ 1000000) (hk : l.length < k) : Pr.stowagekit_SameResponse.f k st l b st l b = some true := by
  unfold Pr.stowagekit_SameResponse.f Pr.stowagekit_SamePairs.f Pr.stowagekit_SameBytes.f
  have h0 : Pr.stowagekit_SamePairs.l0 k l l 0 = some true := spairs_l0 l hl l.length k 0 (by omega) hk
  rw [if_pos rfl, if_pos rfl, h0, Option.bind_some, if_pos rfl, Option.bind_some]
  simp
theorem readP_small {b : Bs} {st : Int} {hs : List (Bs × Bs)} {body : Bs} {n e : Int} (h : readP b = ((st, hs, body), n, e)) : hs.length ≤ 32 := by
  unfold readP at h
  split at h
  · cases h; simp
  · split at h
    · cases h; simp
    · rename_i st' hs' m hp
      obtain ⟨hv, _⟩ := parseP_some hp
      split at h
      · cases h; simp
      · cases h
        exact hv.len
theorem readP_body {b : Bs} {st : Int} {hs : List (Bs × Bs)} {body : Bs} {n e : Int} (h : readP b = ((st, hs, body), n, e)) : body.length ≤ b.length := by
  unfold readP at h
  split at h
  · cases h; simp
  · split at h
    · cases h; simp
    · split at h
      · cases h; simp
      · simp only [Prod.mk.injEq] at h
        obtain ⟨⟨_, _, rfl⟩, _⟩ := h
        rw [List.length_take, List.length_drop]
        omega
theorem arrB_belowN {w w' : World} {B N n : Nat} {f : Nat → UInt8} (h : ArrB w B f n) (hN : B < N) (hb : Below N w w') : ArrB w' B f n := fun j hj =>
  ⟨(hb.cell (p := ⟨B, j, none⟩) hN).trans (h j hj).1, (hb.frozen (p := ⟨B, j, none⟩) hN).trans (h j hj).2⟩
end Go.Proofs.YtmgpbcpggnlkkaaGreatDoor
end
section
/- ResponseReads, by its walk. -/
namespace Go.Proofs.YtmgpbcpggnlkkaaGreatDoor
open Go.RowKit Go.Lib Go.Proofs.YtmgpbcpggnlkkaaGreatDoorW.PrintWords Go.Proofs.YtmgpbcpggnlkkaaGreatDoorW.PrintLast Go.Proofs.YtmgpbcpggnlkkaaGreatDoorW.PrintMore
set_option linter.unusedVariables false
set_option linter.unusedSimpArgs false
set_option maxHeartbeats 4000000 in
set_option maxRecDepth 10000 in
theorem reads_walk (b : Value) (l : Bs) (w : World) (hG : Pr.GM w) (hb : Src w b (Lib.byteCells l)) : Calls Tryz.prog 3 #[b] w fun e w' => e = .returned (.bool true) ∧ Below w.heap.size w w' := by
  obtain ⟨A0, c0, rfl⟩ := src_form27 hb
  by_cases hl : l.length ≤ 6000
  · have hb0 := Lib.hid hb
    have HG := Lib.hid hG
    clear hb hG
    obtain ⟨st, hs, body, n, er, hr⟩ : ∃ st hs body n e, readP l = ((st, hs, body), n, e) := ⟨_, _, _, _, _, rfl⟩
    have hsl := readP_small hr
    have hbl := readP_body hr
    have HBL := Lib.hid (show body.length ≤ 1000000 by omega)
    clear hbl
    have HR := Lib.hid hr
    have hrf := rread_f l hl 600000 (Nat.le_refl _)
    rw [hr] at hrf
    have hrf' : Pr.stowageref27_Read.f 600000 (Pr.numsL l) = some (st, hs.map pairS, Pr.numsL body, n, er) := hrf
    have HRF := Lib.hid hrf'
    have hss := sresp_f st (hs.map pairS) (Pr.numsL body) 100 (by rw [List.length_map]; omega) (by rw [List.length_map]; omega)
    have HSS := Lib.hid hss
    clear hr hrf hrf' hss
    go_enter Tryz.func3, Tryz.ntmps3
    go_wp2_with fail
    refine (lent_any _ l _ (by omega) hb0.out).mono ?_
    rintro e w1 ⟨⟨B, rfl, hB, hA⟩, hb1⟩
    have hs1 := lent_src hA
    have hBw1 : B < w1.heap.size := cell_lt (hA.cell (j := 0) (by omega))
    have hrd := hread_own (some ⟨B, 0, none⟩) (l.length + 3) l w1 (Pr.GM.below hb1 HG.out) (by omega) (fun _ => hs1)
    have HB1 := Lib.hid hb1
    have HA := Lib.hid hA
    clear hb1 hA hs1
    go_wp2_with fail
    refine hrd.mono ?_
    clear hrd
    rintro e w2 ⟨hv, bv, he, h1, h2, h3⟩
    rw [HR.out] at he h1 h2
    subst he
    have h1l : (hs.map pairS).length = hs.length := List.length_map _
    obtain ⟨A, c, rfl⟩ : ∃ A c, hv = .slice A hs.length c := by
      obtain ⟨A, c, h⟩ := Kd.R_slice h1
      exact ⟨A, c, by rw [h, List.length_map]⟩
    rw [← h1l] at h1
    obtain ⟨Ab, cb, rfl, hcb, _⟩ := h2.form
    obtain ⟨-, q1, q2⟩ := Kd.R_reads' h1
    rw [h1l] at q1
    have hC2 := c_of_src h2.src (HBL.out)
    have hR2 := c_room h2.src
    have hb12 := h3
    have hB2 := HB1.out.trans (h3.mono HB1.out.size)
    have hBk : B < w2.heap.size := Nat.lt_of_lt_of_le hBw1 h3.size
    have HA2 := Lib.hid (HA.out.below hBw1 h3)
    have HB2 := Lib.hid hB2
    have HO2 := Lib.hid h2
    have HX1 := Lib.hid q2
    have HX2 := Lib.hid hC2
    have hsz12 := h3.size
    clear h1 h2 h3 hb12 hB2 q2 hC2 HA h1l
    rw [nums_len] at hR2
    have hrc := Pr.stowageref27_Read.calls 600000 A0 c0 (Pr.numsL l) st (hs.map pairS) (Pr.numsL body) n er (w2.alloc (.cells #[.int .i64 st, .slice A hs.length c, .slice Ab body.length cb] 26)) (c_of_src (hb0.out.block (HB2.out.alloc HB2.out.size _)) (by omega)) (c_room hb0.out) HRF.out
    rw [nums_len l] at hrc
    go_wp2_with fail
    refine hrc.mono ?_
    clear hrc
    rintro e w3 ⟨v0, v1, rfl, k1, k2, k3⟩
    have h1l : (hs.map pairS).length = hs.length := List.length_map _
    obtain ⟨Ay, cy, rfl⟩ : ∃ A c, v0 = .slice A hs.length c := by
      obtain ⟨A, c, h⟩ := Kd.R_slice k1
      exact ⟨A, c, by rw [h, List.length_map]⟩
    obtain ⟨Az, cz, rfl⟩ : ∃ A c, v1 = .slice A body.length c := by
      obtain ⟨A, c, h⟩ := Kd.R_slice k2
      exact ⟨A, c, by rw [h, nums_len]⟩
    rw [← h1l] at k1
    rw [← nums_len body] at k2
    obtain ⟨-, y1, y2⟩ := Kd.R_reads' k1
    obtain ⟨-, z1, z2⟩ := Kd.R_reads' k2
    rw [h1l] at y1
    rw [nums_len] at z1
    have hx : w3.heap[w2.heap.size]? = some (.cells #[.int .i64 st, .slice A hs.length c, .slice Ab body.length cb] 26 (0, 0)) := (k3.block _ (by simp)).trans (heap_alloc_new _ _)
    have hb23 : Below w2.heap.size w2 w3 := ((Below.refl _ w2).alloc (Nat.le_refl _) _).trans (k3.mono (by simp))
    have HB3 := Lib.hid (HB2.out.trans (hb23.mono HB2.out.size))
    have HA3 := Lib.hid (HA2.out.below hBk hb23)
    have HO3 := Lib.hid (HO2.out.below hb23)
    have hBk3 : B < w3.heap.size := Nat.lt_of_lt_of_le hBk hb23.size
    have hsr := Pr.stowagekit_SameResponse.calls 100 st A c (hs.map pairS) Ab cb (Pr.numsL body) st Ay cy (hs.map pairS) Az cz (Pr.numsL body) true (w3.alloc (.cells #[.int .i64 st, .slice Ay hs.length cy, .slice Az body.length cz] 26)) (Kd.C_alloc (Kd.C_below HX1.out hb23) _) (by rw [h1l]; exact q1) (Kd.C_alloc (Kd.C_below HX2.out hb23) _) (by rw [nums_len]; exact hR2) (Kd.C_alloc y2 _) (by rw [h1l]; exact y1) (Kd.C_alloc z2 _) (by rw [nums_len]; exact z1) HSS.out
    rw [h1l, nums_len] at hsr
    have hsz23 := hb23.size
    clear k1 k2 k3 y2 z2 hb23 h1l HX1 HX2 HA2 HO2 HB2 hBk
    have a0 : w3.cell? ⟨w2.heap.size, 0, none⟩ = some (.int .i64 st) := by rw [blk_cell hx]; rfl
    have a1 : w3.cell? ⟨w2.heap.size, 1, none⟩ = some (.slice A hs.length c) := by rw [blk_cell hx]; rfl
    have a2 : w3.cell? ⟨w2.heap.size, 2, none⟩ = some (.slice Ab body.length cb) := by rw [blk_cell hx]; rfl
    have hlt : w2.heap.size < w3.heap.size := by
      rcases Nat.lt_or_ge w2.heap.size w3.heap.size with h | h
      · exact h
      · rw [Array.getElem?_eq_none h] at hx; cases hx
    go_wp2_with fail
    refine hsr.mono ?_
    clear hsr
    rintro e w4 ⟨rfl, hb4⟩
    have hb34 : Below w3.heap.size w3 w4 := ((Below.refl _ w3).alloc (Nat.le_refl _) _).trans (hb4.mono (by simp))
    have HB4 := Lib.hid (HB3.out.trans (hb34.mono HB3.out.size))
    have HA4 := Lib.hid (HA3.out.below hBk3 hb34)
    have HO4 := HO3.out.below hb34
    have hBk4 : B < w4.heap.size := Nat.lt_of_lt_of_le hBk3 hb34.size
    have c2 : w4.cell? ⟨w2.heap.size, 2, none⟩ = some (.slice Ab body.length cb) := (hb34.cell (p := ⟨w2.heap.size, 2, none⟩) hlt).trans a2
    clear a0 a1 a2 hx hb4 hb34 HB3 HA3 HO3 hBk3
    have hov := over_own w1.heap.size _ body w4 HO4
    clear HO4
    go_wp2_with fail
    refine hov.mono ?_
    clear hov
    rintro e w5 ⟨rfl, hb5⟩
    have HB5 := Lib.hid (HB4.out.trans (hb5.mono HB1.out.size))
    have hkp := kept_any B (.slice A0 l.length c0) l w5 (by omega) (arrB_belowN HA4.out hBw1 hb5) (hb0.out.block HB5.out)
    clear hb5 c2 HA4 HB4
    go_wp2_with fail
    refine hkp.mono ?_
    clear hkp
    rintro e w6 ⟨rfl, hb6⟩
    have HB6 := Lib.hid (HB5.out.trans (hb6.mono HB5.out.size))
    have hak := awake_any w6 (Pr.GM.below HB6.out HG.out)
    clear hb6
    go_wp2_with fail
    refine hak.mono ?_
    clear hak
    rintro e w7 ⟨rfl, hb7⟩
    have HB7 := Lib.hid (HB6.out.trans (hb7.mono HB6.out.size))
    clear hb7
    go_wp2
    go_ret
    exact ⟨rfl, HB7.out⟩
  · go_enter Tryz.func3, Tryz.ntmps3
    have hl2 : 6000 < (l.length : Int) := by omega
    go_wp2_with fail
    go_ret
    exact ⟨rfl, Below.refl _ _⟩
end Go.Proofs.YtmgpbcpggnlkkaaGreatDoor
end
