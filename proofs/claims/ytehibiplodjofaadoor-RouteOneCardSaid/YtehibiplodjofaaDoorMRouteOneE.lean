/- Texts of this proof, put together: RD29, RE29. -/
import Derived.Test.YtehibiplodjofaaDoorMRouteOnex
import Derived.Test.YtehibiplodjofaaDoorMRouteOneD
import Derived.Test.YtehibiplodjofaaDoorMRouteOneu
section
/- Requests, and bytes, that came in; which requests are large. -/
namespace Go.Proofs.YtehibiplodjofaaDoor
open Go.ChangeShapes Go.WideShapes Go.ChangeAt Go.RowKit Go.Proofs.YtehibiplodjofaaDoorW.PrintWords
set_option linter.unusedVariables false
abbrev zReq : Value := .agg #[.string ⟨#[]⟩, .string ⟨#[]⟩, .slice none 0 0, .slice none 0 0]
theorem nums_wf {l : List Int} (h : ∀ y ∈ l, (Lit.int .u8 y).wf = true) : ∃ B : List UInt8, l = Pr.numsL B := by
  refine ⟨Lib.bytesOf l, (Pr.nums_bytes ?_).symm⟩
  unfold Pr.isBytes
  rw [List.all_eq_true]
  intro y hy
  have := h y hy
  simp [Lit.wf, IntKind.min, IntKind.max, IntKind.signed, IntKind.bits] at this
  simp
  omega
def IsReq (w : World) (v : Value) : Prop := ∃ (m t : ByteArray) (A1 : Option Addr) (c1 : Nat) (hs : List PairT) (A2 : Option Addr) (c2 : Nat) (b : List UInt8), v = .agg #[.string m, .string t, .slice A1 hs.length c1, .slice A2 (Pr.numsL b).length c2] ∧ hs.length ≤ c1 ∧ Kd.C Pr.k41 w A1 hs.length hs ∧ (Pr.numsL b).length ≤ c2 ∧ Kd.C (Kd.int .u8) w A2 (Pr.numsL b).length (Pr.numsL b)
set_option maxRecDepth 10000 in
theorem open_req {H : Type} {enc : TypeId × Value → H} {w : World} {base b0 : Nat} {held : Bool} {r : Reach} {v : Value} {d : DataW H} {p : List MemPlace} (hv : Value.okWide Tryd.prog w r b0 31 v) (h : DataW.Trod enc Tryd.prog w base (fun _ => true) held 31 v d p) : IsReq w v := by
  obtain ⟨cs, x, rfl, hk, hg⟩ := open_agg (α := ByteArray × (ByteArray × (List PairT × List Int))) Tryd.underlying31
    (opens_struct (fun x => x) (fun x => x) (fun _ => rfl) Tryd.underlying31 (by kernel_rfl)
      (opensF_cons rfl (by kernel_rfl) (opens_string Tryd.underlying9) (opensF_cons rfl (by kernel_rfl) (opens_string Tryd.underlying9) (opensF_cons rfl (by kernel_rfl) (opens_slice 41 Tryd.underlying29 (by kernel_rfl) opens_pairK) (opensF_one rfl (by kernel_rfl) (opens_slice 5 Tryd.underlying24 (by kernel_rfl) (opens_int Tryd.underlying5))))))) hv h
  obtain ⟨m, t, hs, b⟩ := x
  obtain ⟨c1, c2, rfl, hk1, c3, c4, rfl, hk2, c5, c6, rfl, hk3, hk4⟩ := hk
  obtain ⟨A1, e1, rfl, h1, h2⟩ := hk3
  obtain ⟨A2, e2, rfl, h3, h4⟩ := hk4
  obtain ⟨_, _, _, _, hb⟩ := hg
  obtain ⟨B, rfl⟩ := nums_wf hb
  obtain rfl : c1 = [.string m] := hk1
  obtain rfl : c3 = [.string t] := hk2
  exact ⟨m, t, A1, e1, hs, A2, e2, B, rfl, h1, h2, h3, h4⟩
theorem large_l0 (m t : ByteArray) (hs : List PairT) (bn : List Int) (hl : hs.length ≤ 80) : ∀ (d k j : Nat), j + d = hs.length → d < k → ∃ r, Pr.stowagekit_LargeRequest.l0 k (j : Int) m t hs bn = some r ∧ (r = false → ∀ q ∈ hs.drop j, q.f0.size ≤ 5000 ∧ q.f1.size ≤ 5000)
  | d, 0, j, _, h => by omega
  | 0, k + 1, j, hj, _ => by
    simp only [Pr.stowagekit_LargeRequest.l0]
    rw [if_neg (by omega), List.drop_of_length_le (by omega)]
    exact ⟨false, rfl, by simp⟩
  | d + 1, k + 1, j, hj, hk => by
    simp only [Pr.stowagekit_LargeRequest.l0]
    rw [if_pos (by omega), if_pos (by omega), rd_at hs j (by omega), List.drop_eq_getElem_cons (by omega : j < hs.length), wrap_up j hs.length (by omega) (by omega)]
    by_cases h1 : ((hs[j].f0).size : Int) > 5000
    · rw [if_pos h1]
      exact ⟨true, rfl, by simp⟩
    · rw [if_neg h1]
      by_cases h2 : ((hs[j].f1).size : Int) > 5000
      · rw [if_pos h2]
        exact ⟨true, rfl, by simp⟩
      · rw [if_neg h2]
        obtain ⟨r, h3, h4⟩ := large_l0 m t hs bn hl d k (j + 1) (by omega) (by omega)
        refine ⟨r, h3, fun hr q hq => ?_⟩
        rcases List.mem_cons.1 hq with rfl | hq
        · omega
        · exact h4 hr q hq
theorem large_f (m t : ByteArray) (hs : List PairT) (bn : List Int) : ∃ r, Pr.stowagekit_LargeRequest.f 100 m t hs bn = some r ∧ (r = false → hs.length ≤ 80 ∧ m.size ≤ 5000 ∧ t.size ≤ 5000 ∧ bn.length ≤ 70000 ∧ ∀ q ∈ hs, q.f0.size ≤ 5000 ∧ q.f1.size ≤ 5000) := by
  unfold Pr.stowagekit_LargeRequest.f
  have ht : Pr.stowagekit_LargeRequest.j0 100 true m t hs bn = some true := by simp [Pr.stowagekit_LargeRequest.j0]
  by_cases h1 : (hs.length : Int) > 80
  · rw [if_pos h1, ht]; exact ⟨true, rfl, by simp⟩
  rw [if_neg h1]
  by_cases h2 : (m.size : Int) > 5000
  · rw [if_pos h2, ht]; exact ⟨true, rfl, by simp⟩
  rw [if_neg h2]
  by_cases h3 : (t.size : Int) > 5000
  · rw [if_pos h3, ht]; exact ⟨true, rfl, by simp⟩
  rw [if_neg h3]
  have hj : ∃ r, Pr.stowagekit_LargeRequest.j0 100 (decide ((bn.length : Int) > 70000)) m t hs bn = some r ∧ (r = false → hs.length ≤ 80 ∧ m.size ≤ 5000 ∧ t.size ≤ 5000 ∧ bn.length ≤ 70000 ∧ ∀ q ∈ hs, q.f0.size ≤ 5000 ∧ q.f1.size ≤ 5000) := by
    by_cases h4 : (bn.length : Int) > 70000
    · rw [decide_eq_true h4, ht]; exact ⟨true, rfl, by simp⟩
    · rw [decide_eq_false h4]
      obtain ⟨r, h5, h6⟩ := large_l0 m t hs bn (by omega) hs.length 99 0 (by omega) (by omega)
      refine ⟨r, ?_, fun hr => ⟨by omega, by omega, by omega, by omega, fun q hq => h6 hr q (by simpa using hq)⟩⟩
      simp only [Pr.stowagekit_LargeRequest.j0]
      rw [if_neg (by simp)]
      exact h5
  split
  · split
    · rw [ht]; exact ⟨true, rfl, by simp⟩
    · exact hj
  · exact hj
theorem large_any (m t : ByteArray) (AH : Option Addr) (cH : Nat) (hs : List PairT) (AB : Option Addr) (cB : Nat) (bn : List Int) (w : World) (hH : Kd.C Pr.k41 w AH hs.length hs) (hcH : hs.length ≤ cH) (hB : Kd.C (Kd.int .u8) w AB bn.length bn) (hcB : bn.length ≤ cB) :
    ∃ r, (r = false → hs.length ≤ 80 ∧ m.size ≤ 5000 ∧ t.size ≤ 5000 ∧ bn.length ≤ 70000 ∧ ∀ q ∈ hs, q.f0.size ≤ 5000 ∧ q.f1.size ≤ 5000) ∧
      Calls Tryd.prog 9 #[.agg #[.string m, .string t, .slice AH hs.length cH, .slice AB bn.length cB]] w fun e w' => e = .returned (.bool r) ∧ Below w.heap.size w w' := by
  obtain ⟨r, h1, h2⟩ := large_f m t hs bn
  exact ⟨r, h2, Pr.stowagekit_LargeRequest.calls 100 m t AH cH hs AB cB bn r w hH hcH hB hcB h1⟩
end Go.Proofs.YtehibiplodjofaaDoor
end
section
/- stowagelaw29.RouteOne, by its walk (printed by wip/gen_rE29.py). -/
namespace Go.Proofs.YtehibiplodjofaaDoor
open Go.RowKit Go.Proofs.YtehibiplodjofaaDoorW.PrintWords Go.Proofs.YtehibiplodjofaaDoorW.PrintLast Go.Proofs.YtehibiplodjofaaDoorW.PrintMore
set_option linter.unusedVariables false
set_option linter.unusedSimpArgs false
set_option maxHeartbeats 8000000 in
set_option maxRecDepth 20000 in
theorem one_walk (v : Value) (w : World) (h : IsReq w v) : Calls Tryd.prog 4 #[v] w fun e w' => e = .returned (.bool true) ∧ Below w.heap.size w w' := by
  obtain ⟨m, t, AH, cH, hs, AB, cB, b, rfl, hcH, hH, hcB, hB⟩ := h
  obtain ⟨bn, hbn⟩ : ∃ bn, Pr.numsL b = bn := ⟨_, rfl⟩
  have hib : Pr.isBytes bn = true := by rw [← hbn]; exact Pr.isBytes_nums b
  rw [hbn] at hcB hB ⊢
  clear hbn
  have hb0 : Below w.heap.size w (w.alloc (.cells #[.string m, .string t, .slice AH hs.length cH, .slice AB bn.length cB] 31)) := (Below.refl _ w).alloc (Nat.le_refl _) _
  have hg0 := heap_alloc_new w (.cells #[.string m, .string t, .slice AH hs.length cH, .slice AB bn.length cB] 31)
  go_enter Tryd.func4, Tryd.ntmps4
  go_wp2_with fail
  refine (known_any _).mono ?_
  rintro e w1 ⟨rfl, hb1⟩
  have hg1 := blk_below hg0 hb1
  have hB1 := hb0.trans (hb1.mono hb0.size)
  clear hg0 hb0 hb1
  obtain ⟨lr, hlr, hlc⟩ := large_any m t AH cH hs AB cB bn w1 (Kd.C_below hH hB1) hcH (Kd.C_below hB hB1) hcB
  go_wp2_with (refine wpList_load_row rfl 31 _ rfl w.heap.size rfl 31 _ (0, 0) _ hg1 Tryd.underlying31 rfl (by kernel_rfl) ?_)
  refine hlc.mono ?_
  clear hlc
  rintro e w2 ⟨rfl, hb2⟩
  have hg2 := blk_below hg1 hb2
  have hB2 := hB1.trans (hb2.mono hB1.size)
  clear hg1 hB1 hb2
  cases lr
  case true =>
    go_wp2
    go_ret
    exact ⟨rfl, hB2⟩
  case false =>
    obtain ⟨l1, l2, l3, l4, l5⟩ := hlr rfl
    clear hlr
    have hof := of_any m t AH cH hs AB cB bn w2 (by omega) (fun q hq => by have := l5 q hq; omega) (Pr.req_in (Kd.C_below hH hB2) hcH (Kd.C_below hB hB2) hcB (by omega) (by omega) hib)
    have hgood := of_good m t hs (Lib.bytesOf bn)
    generalize ofP m t hs (Lib.bytesOf bn) = r at hof hgood
    obtain ⟨⟨cf, bo⟩, en⟩ := r
    simp only at hgood
    go_wp2_with (refine wpList_load_row rfl 31 _ rfl w.heap.size rfl 31 _ (0, 0) _ hg2 Tryd.underlying31 rfl (by kernel_rfl) ?_)
    refine hof.mono ?_
    clear hof hg2
    rintro e w3 ⟨bv, rfl, hown, hb3⟩
    simp only at hown
    obtain ⟨A1, n1, hbv, hn1, hC1⟩ := own_nums hown
    have hB3 := hB2.trans (hb3.mono hB2.size)
    have hb4 : Below w3.heap.size w3 (w3.alloc (.cells (callV cf bv) 26)) := (Below.refl _ w3).alloc (Nat.le_refl _) _
    have hG4 := heap_alloc_new w3 (.cells (callV cf bv) 26)
    have hB4 := hB3.trans (hb4.mono hB3.size)
    have hone : ((callV cf bv).all (·.oneCell')) = true := by rw [hbv]; simp [callV, Value.oneCell']
    have hzn := heap_alloc_new w3 (.cells zc 26)
    rcases hgood with ⟨rfl, hG⟩ | ⟨hz, hen⟩
    · obtain ⟨hsh, p1, p2, p3, p4⟩ := hG
      clear hown hC1 hn1 hb3 hB3 hB2 hbv
      have k0 : (w3.alloc (.cells (callV cf bv) 26)).cell? ⟨w3.heap.size, 0, none⟩ = some (.int .i64 cf.kind) := by rw [blk_cell hG4]; rfl
      have k1 : (w3.alloc (.cells (callV cf bv) 26)).cell? ⟨w3.heap.size, 1, none⟩ = some (.string cf.bucket) := by rw [blk_cell hG4]; rfl
      have k2 : (w3.alloc (.cells (callV cf bv) 26)).cell? ⟨w3.heap.size, 2, none⟩ = some (.string cf.key) := by rw [blk_cell hG4]; rfl
      have k5 : (w3.alloc (.cells (callV cf bv) 26)).cell? ⟨w3.heap.size, 5, none⟩ = some (.int .i64 cf.part) := by rw [blk_cell hG4]; rfl
      have k10 : (w3.alloc (.cells (callV cf bv) 26)).cell? ⟨w3.heap.size, 10, none⟩ = some (.int .i64 cf.most) := by rw [blk_cell hG4]; rfl
      generalize cf.kind = kd at hsh k0
      generalize cf.bucket = bk at hsh k1
      generalize cf.key = ky at hsh k2
      generalize cf.part = pt at p1 p2 k5
      generalize cf.most = mo at p3 p4 k10
      have d1 : decide (0 ≤ pt) = true := decide_eq_true p1
      have d2 : decide (pt ≤ 10000) = true := decide_eq_true p2
      have d3 : decide (0 ≤ mo) = true := decide_eq_true p3
      have d4 : decide (mo ≤ 1000) = true := decide_eq_true p4
      rcases hsh with ⟨rfl, rfl, rfl⟩ | ⟨s1, s2, s3, rfl⟩ | ⟨s1, s2, s3, s4⟩
      · go_wp2_with (refine wpList_store_row rfl 26 _ _ rfl w3.heap.size (callV cf bv) rfl rfl 26 zc hzn call15 rfl hone ?_; rw [World.setRow_alloc_new])
        go_wp2
        go_ret
        exact ⟨rfl, hB4⟩
      · have n1 := empty_ne bk (bucket_ne s3)
        obtain ⟨n1, n2⟩ := n1
        have e1 : decide (kd < 1) = false := decide_eq_false (by omega)
        have e2 : decide (20 < kd) = false := decide_eq_false (by omega)
        have e3 : (kd == 1) = false := by rw [beq_eq_false_iff_ne]; omega
        have e4 : decide (12 ≤ kd) = false := decide_eq_false (by omega)
        go_wp2_with (refine wpList_store_row rfl 26 _ _ rfl w3.heap.size (callV cf bv) rfl rfl 26 zc hzn call15 rfl hone ?_; rw [World.setRow_alloc_new])
        refine (bucket_any bk _).mono ?_
        rintro e w5 ⟨rfl, hb5⟩
        have hB5 := hB4.trans (hb5.mono hB4.size)
        have hG5 := blk_below hG4 hb5
        have k0' : w5.cell? ⟨w3.heap.size, 0, none⟩ = some (.int .i64 kd) := below_cell hb5 k0
        have k1' : w5.cell? ⟨w3.heap.size, 1, none⟩ = some (.string bk) := below_cell hb5 k1
        have k2' : w5.cell? ⟨w3.heap.size, 2, none⟩ = some (.string ⟨#[]⟩) := below_cell hb5 k2
        have k5' : w5.cell? ⟨w3.heap.size, 5, none⟩ = some (.int .i64 pt) := below_cell hb5 k5
        have k10' : w5.cell? ⟨w3.heap.size, 10, none⟩ = some (.int .i64 mo) := below_cell hb5 k10
        rw [s3]
        go_wp2
        go_ret
        exact ⟨rfl, hB5⟩
      · have n1 := empty_ne bk (bucket_ne s3)
        obtain ⟨n1, n2⟩ := n1
        have n3 := empty_ne ky (key_ne s4)
        obtain ⟨n3, n4⟩ := n3
        have e1 : decide (kd < 1) = false := decide_eq_false (by omega)
        have e2 : decide (20 < kd) = false := decide_eq_false (by omega)
        have e3 : (kd == 1) = false := by rw [beq_eq_false_iff_ne]; omega
        have e4 : decide (12 ≤ kd) = true := decide_eq_true (by omega)
        have hks : ky.size ≤ 1000000 := by
          unfold keyB at s4
          simp only [Bool.and_eq_true, decide_eq_true_eq] at s4
          omega
        go_wp2_with (refine wpList_store_row rfl 26 _ _ rfl w3.heap.size (callV cf bv) rfl rfl 26 zc hzn call15 rfl hone ?_; rw [World.setRow_alloc_new])
        refine (bucket_any bk _).mono ?_
        rintro e w5 ⟨rfl, hb5⟩
        have hB5 := hB4.trans (hb5.mono hB4.size)
        have hG5 := blk_below hG4 hb5
        have k0' : w5.cell? ⟨w3.heap.size, 0, none⟩ = some (.int .i64 kd) := below_cell hb5 k0
        have k1' : w5.cell? ⟨w3.heap.size, 1, none⟩ = some (.string bk) := below_cell hb5 k1
        have k2' : w5.cell? ⟨w3.heap.size, 2, none⟩ = some (.string ky) := below_cell hb5 k2
        have k5' : w5.cell? ⟨w3.heap.size, 5, none⟩ = some (.int .i64 pt) := below_cell hb5 k5
        have k10' : w5.cell? ⟨w3.heap.size, 10, none⟩ = some (.int .i64 mo) := below_cell hb5 k10
        rw [s3]
        go_wp2_with fail
        refine (key_any ky _ hks).mono ?_
        rintro e w6 ⟨rfl, hb6⟩
        have hB6 := hB5.trans (hb6.mono hB5.size)
        have hG6 := blk_below hG5 hb6
        have k0'' : w6.cell? ⟨w3.heap.size, 0, none⟩ = some (.int .i64 kd) := below_cell hb6 k0'
        have k1'' : w6.cell? ⟨w3.heap.size, 1, none⟩ = some (.string bk) := below_cell hb6 k1'
        have k2'' : w6.cell? ⟨w3.heap.size, 2, none⟩ = some (.string ky) := below_cell hb6 k2'
        have k5'' : w6.cell? ⟨w3.heap.size, 5, none⟩ = some (.int .i64 pt) := below_cell hb6 k5'
        have k10'' : w6.cell? ⟨w3.heap.size, 10, none⟩ = some (.int .i64 mo) := below_cell hb6 k10'
        rw [s4]
        go_wp2
        go_ret
        exact ⟨rfl, hB6⟩
    · simp only [Prod.mk.injEq] at hz
      obtain ⟨rfl, rfl⟩ := hz
      have hsm := same_any zcall A1 n1 (Pr.numsL []) zcall none 0 [] (w3.alloc (.cells (callV zcall bv) 26)) (Kd.C_below hC1 hb4) hn1 (Kd.C_nil _ _) (Nat.le_refl _)
      rw [← hbv, show Pr.numsL [] = [] from rfl, sameF_refl] at hsm
      have hsm' : Calls Tryd.prog 11 #[.agg (callV zcall bv), .agg zc] (w3.alloc (.cells (callV zcall bv) 26)) fun e w' => e = .returned (.bool true) ∧ Below (w3.alloc (.cells (callV zcall bv) 26)).heap.size (w3.alloc (.cells (callV zcall bv) 26)) w' := hsm
      clear hsm hown hC1 hn1 hb3 hB3 hB2 hbv
      unfold zc at hsm'
      have hcf : (callV zcall bv).size = 15 := rfl
      obtain ⟨cw, hcw⟩ : ∃ x, callV zcall bv = x := ⟨_, rfl⟩
      rw [hcw] at hsm' hone hcf hG4 hB4 ⊢
      clear hcw
      rcases hen with rfl | rfl | rfl | rfl | rfl | rfl
      all_goals (
        go_wp2_with (first
          | (refine wpList_store_row rfl 26 _ _ rfl w3.heap.size cw rfl rfl 26 zc hzn (by rw [hcf]; exact call15) (by rw [hcf]; rfl) hone ?_; rw [World.setRow_alloc_new])
          | (refine wpList_loadG rfl 26 _ rfl w3.heap.size rfl 26 cw (0, 0) _ hG4 Tryd.underlying26 rfl (by rw [hcf]; exact call15) ?_))
        refine hsm'.mono ?_
        rintro e w5 ⟨rfl, hb5⟩
        have hB5 := hB4.trans (hb5.mono hB4.size)
        go_wp2
        go_ret
        exact ⟨rfl, hB5⟩)
end Go.Proofs.YtehibiplodjofaaDoor
end
