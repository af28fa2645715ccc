/- Texts of this proof, put together: Rs27, Bo27, Br27. -/
import Derived.Test.YtmgpbcpggnlkkaaGreatDoorMResponseByteso
import Derived.Test.YtmgpbcpggnlkkaaGreatDoorMResponseBytesp
import Derived.Test.YtmgpbcpggnlkkaaGreatDoorMResponseBytesi
import Derived.Test.YtmgpbcpggnlkkaaGreatDoorMResponseBytesj
import Derived.Test.YtmgpbcpggnlkkaaGreatDoorMResponseBytesl
import Derived.Test.YtmgpbcpggnlkkaaGreatDoorMResponseBytesm
import Derived.Test.YtmgpbcpggnlkkaaGreatDoorMResponseBytesg
section
/- Small lemmas for the walks of ResponseReads and ResponseBytes. -/
namespace Go.Proofs.YtmgpbcpggnlkkaaGreatDoor
open Go.RowKit Go.Lib Go.Proofs.YtmgpbcpggnlkkaaGreatDoorW.PrintWords Go.Proofs.YtmgpbcpggnlkkaaGreatDoorW.PrintLast Go.Proofs.YtmgpbcpggnlkkaaGreatDoorW.PrintMore
set_option linter.unusedVariables false
set_option linter.unusedSimpArgs false
theorem c_of_src {w : World} {A : Option Addr} {c : Nat} {l : Bs} (h : Src w (.slice A l.length c) (Lib.byteCells l)) (hl : l.length ≤ 1000000) : Kd.C (Kd.int .u8) w A (Pr.numsL l).length (Pr.numsL l) := by
  refine ⟨rfl, by rw [nums_len]; omega, fun hp => ?_⟩
  rw [nums_len] at hp
  rcases h with ⟨A', c', h0, _, h1⟩ | ⟨b, off, c', hu, hle, hc⟩
  · exfalso
    have : l.length = 0 := by rw [← bc_len, h1]; rfl
    omega
  · injection hu with h1 h2 h3
    subst h1
    refine ⟨_, rfl, fun j p hj => ⟨[.int .u8 p], rfl, rfl, fun i u hi => ?_⟩⟩
    have := hc j (.int .u8 p) (by rw [Pr.cells_of, List.getElem?_map, hj]; rfl)
    rcases i with _ | i
    · cases hi
      cases j <;> simpa [Addr.add, Kd.int, Kd.scalar] using this
    · simp at hi
theorem c_room {w : World} {A : Option Addr} {c : Nat} {l : Bs} (h : Src w (.slice A l.length c) (Lib.byteCells l)) : (Pr.numsL l).length ≤ c := by
  rw [nums_len]
  rcases h with ⟨A', c', h0, _, h1⟩ | ⟨b, off, c', hu, hle, hc⟩
  · have : l.length = 0 := by rw [← bc_len, h1]; rfl
    omega
  · injection hu with h1 h2 h3
    rw [bc_len] at hle
    omega
theorem spairs_l0 (l : List SPair) (hl : l.length ≤ 1000000) : ∀ (d k j : Nat), j + d = l.length → d < k → Pr.stowagekit_SamePairs.l0 k l l (j : Int) = some true
  | d, 0, j, _, h => by omega
  | 0, k + 1, j, hj, _ => by
    simp only [Pr.stowagekit_SamePairs.l0]
    rw [if_neg (by omega)]
  | d + 1, k + 1, j, hj, hk => by
    simp only [Pr.stowagekit_SamePairs.l0]
    rw [if_pos (by omega), if_pos (by omega), if_pos (by omega), if_neg (by simp), wup j l.length (by omega) (by omega)]
    exact spairs_l0 l hl d k (j + 1) (by omega) (by omega)
theorem sresp_f (st : Int) (l : List SPair) (b : List Int) (k : Nat) (hl : l.length ≤ 1000000) (hk : l.length < k) : Pr.stowagekit_SameResponse.f k st l b st l b = some true := by
  unfold Pr.stowagekit_SameResponse.f Pr.stowagekit_SamePairs.f Pr.stowagekit_SameBytes.f
  have h0 : Pr.stowagekit_SamePairs.l0 k l l 0 = some true := spairs_l0 l hl l.length k 0 (by omega) hk
  rw [if_pos rfl, if_pos rfl, h0, Option.bind_some, if_pos rfl, Option.bind_some]
  simp
end Go.Proofs.YtmgpbcpggnlkkaaGreatDoor
end
section
/- response.Bytes, with what stands in the room of its answer. -/
namespace Go.Proofs.YtmgpbcpggnlkkaaGreatDoor
open Go.RowKit Go.Proofs.YtmgpbcpggnlkkaaGreatDoorW.PrintWords Go.Proofs.YtmgpbcpggnlkkaaGreatDoorW.PrintLast Go.Proofs.YtmgpbcpggnlkkaaGreatDoorW.PrintMore
set_option linter.unusedVariables false
set_option linter.unusedSimpArgs false
theorem hdrs_len27 : ∀ (hs : List SPair), (∀ p ∈ hs, p.f0.size ≤ 2000 ∧ p.f1.size ≤ 2000) → (hdrs hs).length ≤ 5000 * hs.length
  | [], _ => by simp [hdrs]
  | p :: r, h => by
    have ih := hdrs_len27 r (fun q hq => h q (List.mem_cons_of_mem _ hq))
    have hp := h p List.mem_cons_self
    have h0 := bs_len p.f0
    have h1 := bs_len p.f1
    unfold hdrs at ih ⊢
    rw [List.flatMap_cons, List.length_append, List.length_append, List.length_cons]
    have : (hdr (pairL p)).length ≤ 4002 := by unfold hdr pairL; simp only [List.length_append, List.length_cons, List.length_nil]; omega
    have hc : crlf.length = 2 := rfl
    omega
theorem head_len27 (st : Int) (hs : List SPair) (n : Nat) (hst : wordsL st ≠ []) (hsz : ∀ p ∈ hs, p.f0.size ≤ 2000 ∧ p.f1.size ≤ 2000) (hn : n ≤ 1000000) : (headL st (hs.map pairL) n).length ≤ 200 + 5000 * hs.length := by
  rw [head_form]
  have h1 := hdrs_len27 hs hsz
  have h2 := words_len st
  have h3 := (itoa_sts st (wordsL_mem hst)).2.2.1
  have h4 := dec_size n (by omega)
  have h5 : (line0 st).length ≤ 50 := by unfold line0; simp only [List.length_append, List.length_cons, List.length_nil]; omega
  have h6 : (lineN n).length ≤ 40 := by unfold lineN cl14; simp only [List.length_append, List.length_cons, List.length_nil]; omega
  simp only [List.length_append]
  have h7 : crlf.length = 2 := rfl
  have h8 : four.length = 4 := rfl
  omega
theorem operwp_append {P : Program} {w : World} {o : Oper} {a : Act} {K : Act → World → Prop} {Q : Exit → Act → World → Prop} (sl x : Operand) (t tx : TypeId)
    (ho : o.op = .call { callee := .builtin .append, args := #[sl, x], argTypes := #[t, tx] }) (v u : Value) (hv : a.eval sl = v) (hu : a.eval x = u) {v' : Value} {w' : World}
    (hr : (Builtin.append_ #[t, tx] o.type #[v, u]).run P w = .ok v' w') (hk : K (a.put o.dst v') w') : Oper.wp P o a w K Q := by
  unfold Oper.wp execOp
  simp only [ho, resolve, invoke, builtin, Sem.run_bind, Sem.run_pure, Result.andThen_ok, List.map_toArray, List.map_cons, List.map_nil, hv, hu, hr]
  exact hk
def BytesQ (st : Int) (hs : List SPair) (body : Bs) (w : World) (e : Ending) (w' : World) : Prop :=
  ∃ v, e = .returned (.tuple #[v, .int .i64 (bytesP st (hs.map pairL) body).2]) ∧ OwnB w' w.heap.size 5 v (bytesP st (hs.map pairL) body).1 ∧ Below w.heap.size w w'
set_option maxHeartbeats 4000000 in
set_option maxRecDepth 10000 in
theorem bytes_own (st : Int) (A1 : Option Addr) (c1 : Nat) (hs : List SPair) (A2 : Option Addr) (c2 : Nat) (body : Bs) (w : World) (hG : Pr.GM w) (hr : Kd.C Pr.k51 w A1 hs.length hs) (hc1 : hs.length ≤ c1) (hb : Src w (.slice A2 body.length c2) (Lib.byteCells body)) (hl : hs.length ≤ 100) (hsz : ∀ p ∈ hs, p.f0.size ≤ 2000 ∧ p.f1.size ≤ 2000) (hbl : body.length ≤ 100000) :
    Calls Tryz.prog 14 #[.agg #[.int .i64 st, .slice A1 hs.length c1, .slice A2 body.length c2]] w (BytesQ st hs body w) := by
  obtain ⟨i0, hi, hz0, hz1, hz2⟩ := info_parts infoU8
  have hw1 : Below w.heap.size w (w.alloc (.cells #[.int .i64 st, .slice A1 hs.length c1, .slice A2 body.length c2] 26)) := (Below.refl _ w).alloc (Nat.le_refl _) _
  have hwf := wrong_f st hs (Pr.numsL body) (by omega) (fun p hp => by have := hsz p hp; omega) 200 (by omega)
  have hwc := Pr.response_wrong.calls 200 st A1 c1 hs A2 c2 (Pr.numsL body) _ (w.alloc (.cells #[.int .i64 st, .slice A1 hs.length c1, .slice A2 body.length c2] 26)) (Kd.C_alloc hr _) hc1 (c_of_src (hb.block hw1) (by omega)) (c_room hb) hwf
  rw [nums_len] at hwc
  have HG := Lib.hid hG
  have HB := Lib.hid hb
  have HR := Lib.hid hr
  clear hwf hG hb hr
  go_enter Tryz.func14, Tryz.ntmps14
  go_wp2_with fail
  refine hwc.mono ?_
  clear hwc
  rintro e w2 ⟨rfl, hb2⟩
  have hbx : w2.heap[w.heap.size]? = some (.cells #[.int .i64 st, .slice A1 hs.length c1, .slice A2 body.length c2] 26 (0, 0)) := (hb2.block _ (by simp)).trans (heap_alloc_new _ _)
  have hB2 := hw1.trans (hb2.mono hw1.size)
  have HB2 := Lib.hid hB2
  have hsz2 : w.heap.size + 1 ≤ w2.heap.size := by have := hb2.size; simpa using this
  clear hw1 hb2 hB2
  by_cases hw0 : wrongL st (hs.map pairL) = 0
  case neg =>
    have hwb : (wrongL st (hs.map pairL) != 0) = true := bne_iff_ne.2 hw0
    have hfin : BytesQ st hs body w (.returned (.tuple #[.slice none 0 0, .int .i64 (wrongL st (hs.map pairL))])) w2 := by
      unfold BytesQ bytesP
      rw [if_neg hw0]
      exact ⟨_, rfl, .inl ⟨rfl, rfl⟩, HB2.out⟩
    have HF := Lib.hid hfin
    clear hfin hw0
    go_wp2
    go_ret2
    exact HF.out
  have hwb : (wrongL st (hs.map pairL) != 0) = false := by rw [hw0]; rfl
  obtain ⟨hst, -, -⟩ := wrongL_zero hw0
  have hhd := head_own st A1 c1 hs (.slice A2 body.length c2) (body.length : Int) w2.drew (Pr.GM.drew (Pr.GM.below HB2.out HG.out)) (Kd.C_drew (Kd.C_below HR.out HB2.out)) hst ⟨hl, hsz⟩ (by omega) (by omega) (by omega) rfl
  rw [Int.toNat_natCast] at hhd
  have HST := Lib.hid hst
  have HW0 := Lib.hid hw0
  have HBX := Lib.hid hbx
  clear hst hw0
  have a2 : w2.cell? ⟨w.heap.size, 2, none⟩ = some (.slice A2 body.length c2) := by rw [blk_cell hbx]; rfl
  clear hbx
  have hlim : (body.length : Int) ≤ 100000 := by omega
  go_upto_region 6 with (fail)
  refine wp_region_held_drew (S := fun W => W.heap[w.heap.size]? = some (.cells #[.int .i64 st, .slice A1 hs.length c1, .slice A2 body.length c2] 26 (0, 0))) (by kernel_rfl) HBX.out (fun hHeld => ?_)
  refine wpAnyH_take (i := 0) (oi := _) (v := .agg #[.int .i64 st, .slice A1 hs.length c1, .slice A2 body.length c2]) rfl (by kernel_rfl) (by kernel_rfl) (by kernel_rfl) (fun _ _ _ h => h) (yields_row27 (by rfl) 26 _ rfl w.heap.size rfl 26 _ (0, 0) _ (fun w hs => hs) Tryz.underlying26 rfl resp3) hHeld ?_
  try simp only [List.getElem_toArray, List.getElem_cons_succ, List.getElem_cons_zero, Act.put, List.setIfInBounds_toArray, List.set_cons_zero, List.set_cons_succ]
  refine wpAnyH_take (i := 1) (oi := _) (v := ?_) rfl (by kernel_rfl) (by kernel_rfl) (by kernel_rfl) (fun _ _ _ h => h) (Or.inl ⟨by rfl, ?_⟩) hHeld ?_
  rotate_left
  · intro w hSw
    go_simp
    try with_reducible rfl
  try simp only [List.getElem_toArray, List.getElem_cons_succ, List.getElem_cons_zero, Act.put, List.setIfInBounds_toArray, List.set_cons_zero, List.set_cons_succ]
  refine wpAnyH_take (i := 2) (oi := _) (v := .slice A2 body.length c2) rfl (by kernel_rfl) (by kernel_rfl) (by kernel_rfl) (fun _ _ _ h => h) (Or.inl ⟨by rfl, fun W hSw => ?_⟩) hHeld ?_
  · have hq : W.cell? ⟨w.heap.size, 2, none⟩ = some (.slice A2 body.length c2) := by rw [blk_cell hSw]; rfl
    go_simp
  try simp only [List.getElem_toArray, List.getElem_cons_succ, List.getElem_cons_zero, Act.put, List.setIfInBounds_toArray, List.set_cons_zero, List.set_cons_succ]
  refine wpAnyH_take (i := 3) (oi := _) (v := ?_) rfl (by kernel_rfl) (by kernel_rfl) (by kernel_rfl) (fun _ _ _ h => h) (Or.inl ⟨by rfl, ?_⟩) hHeld ?_
  rotate_left
  · intro w hSw
    go_simp
    try with_reducible rfl
  try simp only [List.getElem_toArray, List.getElem_cons_succ, List.getElem_cons_zero, Act.put, List.setIfInBounds_toArray, List.set_cons_zero, List.set_cons_succ]
  refine wpAnyH_take (i := 5) (oi := _) (v := ?_) rfl (by kernel_rfl) (by kernel_rfl) (by kernel_rfl) (fun _ _ _ h => h) (Or.inl ⟨by rfl, ?_⟩) hHeld ?_
  rotate_left
  · intro w hSw
    go_simp
    try with_reducible rfl
  try simp only [List.getElem_toArray, List.getElem_cons_succ, List.getElem_cons_zero, Act.put, List.setIfInBounds_toArray, List.set_cons_zero, List.set_cons_succ]
  refine wpAnyH_take (i := 6) (oi := _) (v := .slice A2 body.length c2) rfl (by kernel_rfl) (by kernel_rfl) (by kernel_rfl) (fun _ _ _ h => h) (Or.inl ⟨by rfl, fun W hSw => ?_⟩) hHeld ?_
  · have hq : W.cell? ⟨w.heap.size, 2, none⟩ = some (.slice A2 body.length c2) := by rw [blk_cell hSw]; rfl
    go_simp
  try simp only [List.getElem_toArray, List.getElem_cons_succ, List.getElem_cons_zero, Act.put, List.setIfInBounds_toArray, List.set_cons_zero, List.set_cons_succ]
  refine wpAnyH_ready (rs := [4]) (by kernel_rfl) (by simp) ?_
  refine AllReadyH.cons (o := _) rfl (fun K hK => ?_) AllReadyH.nil
  go_simp
  refine hhd.mono ?_
  clear hhd
  rintro e w3 ⟨v, rfl, hown, hb3⟩
  have hb23 : Below w2.heap.size w2 w3 := ⟨hb3.os, hb3.tape, hb3.output, hb3.size, hb3.block⟩
  have hx3 : w3.heap[w.heap.size]? = some (.cells #[.int .i64 st, .slice A1 hs.length c1, .slice A2 body.length c2] 26 (0, 0)) := (hb23.block _ (by omega)).trans HBX.out
  have hown2 : OwnB w3 (w.heap.size + 1) 5 v (headL st (hs.map pairL) body.length) := OwnB.le hown (by show w.heap.size + 1 ≤ w2.heap.size; exact hsz2)
  have HB3 := Lib.hid (HB2.out.trans (hb23.mono HB2.out.size))
  have hsz3 : w.heap.size + 1 ≤ w3.heap.size := Nat.le_trans hsz2 hb23.size
  have hhl := head_len27 st hs body.length HST.out hsz (by omega)
  obtain ⟨v', w4, hra, hown4, hg4, -⟩ := run_append_B (P := Tryz.prog) w3 22 22 22 5 i0 Tryz.underlying22 hi hz0 hz1 hz2 (w.heap.size + 1) v _ hown2 (.slice A2 body.length c2) body (srcG_of Tryz.underlying22 (HB.out.block HB3.out)) (by omega) hsz3
  have hb14 : Below (w.heap.size + 1) w3 w4 := (Below.refl _ w3).grown hg4 hsz3 (fun k hk => (hown2.lt k hk).1)
  have hx4 : w4.heap[w.heap.size]? = some (.cells #[.int .i64 st, .slice A1 hs.length c1, .slice A2 body.length c2] 26 (0, 0)) := (hb14.block _ (by omega)).trans hx3
  have hfin : BytesQ st hs body w (.returned (.tuple #[v', .int .i64 0])) w4 := by
    unfold BytesQ bytesP
    rw [if_pos HW0.out, if_neg (by omega)]
    exact ⟨v', rfl, hown4.le (by omega), HB3.out.trans (hb14.mono (by omega))⟩
  have HF := Lib.hid hfin
  have HX4 := Lib.hid hx4
  obtain ⟨Av, cv, hvf, -, -⟩ := hown2.form
  subst hvf
  clear hfin hown hown2 hown4 hg4 hb14 hb23 hb3 hx4 hhl hsz3 hsz2 a2
  go_wp2_with fail
  refine hK.out _ _ hx3 (fun hHeld => ?_)
  clear hK K
  try simp only [List.getElem_toArray, List.getElem_cons_succ, List.getElem_cons_zero, Act.put, List.setIfInBounds_toArray, List.set_cons_zero, List.set_cons_succ]
  refine wpAnyH_ready (rs := [7]) (by kernel_rfl) (by simp) ?_
  refine AllReadyH.cons (o := _) rfl (fun K hK => ?_) AllReadyH.nil
  rw [if_pos (by rfl)]
  refine operwp_append _ _ _ _ rfl _ _ rfl rfl hra ?_
  refine hK.out _ _ HX4.out (fun hHeld => ?_)
  clear hK K
  try simp only [List.getElem_toArray, List.getElem_cons_succ, List.getElem_cons_zero, Act.put, List.setIfInBounds_toArray, List.set_cons_zero, List.set_cons_succ]
  clear hra hx3
  refine wpAnyH_take (i := 8) (oi := _) (v := ?_) rfl (by kernel_rfl) (by kernel_rfl) (by kernel_rfl) (fun _ _ _ h => h) (Or.inl ⟨by rfl, ?_⟩) hHeld ?_
  rotate_left
  · intro w hSw
    go_simp
    try with_reducible rfl
  try simp only [List.getElem_toArray, List.getElem_cons_succ, List.getElem_cons_zero, Act.put, List.setIfInBounds_toArray, List.set_cons_zero, List.set_cons_succ]
  refine wpAnyH_take (i := 9) (oi := _) (v := ?_) rfl (by kernel_rfl) (by kernel_rfl) (by kernel_rfl) (fun _ _ _ h => h) (Or.inl ⟨by rfl, ?_⟩) hHeld ?_
  rotate_left
  · intro w hSw
    go_simp
    try with_reducible rfl
  try simp only [List.getElem_toArray, List.getElem_cons_succ, List.getElem_cons_zero, Act.put, List.setIfInBounds_toArray, List.set_cons_zero, List.set_cons_succ]
  refine wpAnyH_done (by kernel_rfl) ?_ _
  clear hHeld
  go_wp2
  go_ret2
  exact HF.out
end Go.Proofs.YtmgpbcpggnlkkaaGreatDoor
end
section
/- The reference's Bytes, by its walk. -/
namespace Go.Proofs.YtmgpbcpggnlkkaaGreatDoor
open Go.RowKit Go.Proofs.YtmgpbcpggnlkkaaGreatDoorW.PrintWords Go.Proofs.YtmgpbcpggnlkkaaGreatDoorW.PrintLast Go.Proofs.YtmgpbcpggnlkkaaGreatDoorW.PrintMore
set_option linter.unusedVariables false
set_option linter.unusedSimpArgs false
def RBytesQ (st : Int) (hs : List SPair) (body : Bs) (w : World) (e : Ending) (w' : World) : Prop :=
  ∃ v, e = .returned (.tuple #[v, .int .i64 (bytesP st (hs.map pairL) body).2]) ∧ Src w' v (Lib.byteCells (bytesP st (hs.map pairL) body).1) ∧ Below w.heap.size w w'
def rooM (w : World) (h : Bs) : Bs := List.replicate (grownCap w h.length 0 5 - h.length) 0
theorem conv_cells (w : World) (h : Bs) : Lib.bytesCells w 5 (BA h) = (Lib.byteCells (h ++ rooM w h)).toArray := by
  unfold Lib.bytesCells rooM
  rw [ba_size]
  apply Array.toList_inj.1
  simp [Lib.byteCells, BA]
theorem rooM_len (w : World) (h : Bs) : h.length + (rooM w h).length = grownCap w h.length 0 5 := by
  unfold rooM
  have := grownCap_ge w h.length 0 5
  rw [List.length_replicate]
  omega
set_option maxHeartbeats 4000000 in
set_option maxRecDepth 10000 in
theorem rbytes_any (st : Int) (A1 : Option Addr) (c1 : Nat) (hs : List SPair) (A2 : Option Addr) (c2 : Nat) (body : Bs) (w : World) (hr : Kd.C Pr.k51 w A1 hs.length hs) (hc1 : hs.length ≤ c1) (hb : Src w (.slice A2 body.length c2) (Lib.byteCells body)) (hl : hs.length ≤ 100) (hsz : ∀ p ∈ hs, p.f0.size ≤ 2000 ∧ p.f1.size ≤ 2000) (hbl : body.length ≤ 100000) :
    Calls Tryz.prog 15 #[.agg #[.int .i64 st, .slice A1 hs.length c1, .slice A2 body.length c2]] w (RBytesQ st hs body w) := by
  obtain ⟨i0, hi, hz0, hz1, hz2⟩ := info_parts infoU8
  have hw1 : Below w.heap.size w (w.alloc (.cells #[.int .i64 st, .slice A1 hs.length c1, .slice A2 body.length c2] 26)) := (Below.refl _ w).alloc (Nat.le_refl _) _
  have hwf := rwrong_f st hs (Pr.numsL body) (body.length : Int) (by omega) (fun p hp => by have := hsz p hp; omega) 400000 (by omega)
  have hwe : (if wrongL st (hs.map pairL) = 0 then (if (body.length : Int) > 1048576 then (3 : Int) else 0) else wrongL st (hs.map pairL)) = wrongL st (hs.map pairL) := by
    by_cases h : wrongL st (hs.map pairL) = 0
    · rw [if_pos h, if_neg (by omega), h]
    · rw [if_neg h]
  rw [hwe] at hwf
  have hwc := Pr.stowageref27_wrong.calls 400000 st A1 c1 hs A2 c2 (Pr.numsL body) (body.length : Int) _ (w.alloc (.cells #[.int .i64 st, .slice A1 hs.length c1, .slice A2 body.length c2] 26)) (Kd.C_alloc hr _) hc1 (c_of_src (hb.block hw1) (by omega)) (c_room hb) hwf
  rw [nums_len] at hwc
  have HB := Lib.hid hb
  have HR := Lib.hid hr
  clear hwf hwe hb hr
  go_enter Tryz.func15, Tryz.ntmps15
  go_wp2_with fail
  refine hwc.mono ?_
  clear hwc
  rintro e w2 ⟨rfl, hb2⟩
  have hbx : w2.heap[w.heap.size]? = some (.cells #[.int .i64 st, .slice A1 hs.length c1, .slice A2 body.length c2] 26 (0, 0)) := (hb2.block _ (by simp)).trans (heap_alloc_new _ _)
  have hB2 := hw1.trans (hb2.mono hw1.size)
  have HB2 := Lib.hid hB2
  have hsz2 : w.heap.size + 1 ≤ w2.heap.size := by have := hb2.size; simpa using this
  clear hw1 hb2 hB2
  by_cases hw0 : wrongL st (hs.map pairL) = 0
  case neg =>
    have hwb : (wrongL st (hs.map pairL) != 0) = true := bne_iff_ne.2 hw0
    have hfin : RBytesQ st hs body w (.returned (.tuple #[.slice none 0 0, .int .i64 (wrongL st (hs.map pairL))])) w2 := by
      unfold RBytesQ bytesP
      rw [if_neg hw0]
      exact ⟨_, rfl, .inl ⟨none, 0, rfl, fun _ => rfl, rfl⟩, HB2.out⟩
    have HF := Lib.hid hfin
    clear hfin hw0
    go_wp2
    go_ret2
    exact HF.out
  have hwb : (wrongL st (hs.map pairL) != 0) = false := by rw [hw0]; rfl
  obtain ⟨hst, -, -⟩ := wrongL_zero hw0
  have hB2d : Below w.heap.size w w2.drew := below_drewN HB2.out 1
  have hhd := Pr.stowageref27_head.calls 200 st A1 c1 hs A2 c2 (Pr.numsL body) (body.length : Int) _ w2.drew (Kd.C_below HR.out hB2d) hc1 (c_of_src (HB.out.block hB2d) (by omega)) (c_room HB.out) (rhead_f st hs (Pr.numsL body) body.length hst (by omega) (by omega) hsz 200 (by omega))
  rw [nums_len] at hhd
  have HST := Lib.hid hst
  have HW0 := Lib.hid hw0
  have HBX := Lib.hid hbx
  clear hst hw0 hbx hB2d
  go_upto_region 4 with (fail)
  refine wp_region_held_drew (S := fun W => W.heap[w.heap.size]? = some (.cells #[.int .i64 st, .slice A1 hs.length c1, .slice A2 body.length c2] 26 (0, 0))) (by kernel_rfl) HBX.out (fun hHeld => ?_)
  refine wpAnyH_take (i := 0) (oi := _) (v := .agg #[.int .i64 st, .slice A1 hs.length c1, .slice A2 body.length c2]) rfl (by kernel_rfl) (by kernel_rfl) (by kernel_rfl) (fun _ _ _ h => h) (yields_row27 (by rfl) 26 _ rfl w.heap.size rfl 26 _ (0, 0) _ (fun w hs => hs) Tryz.underlying26 rfl resp3) hHeld ?_
  try simp only [List.getElem_toArray, List.getElem_cons_succ, List.getElem_cons_zero, Act.put, List.setIfInBounds_toArray, List.set_cons_zero, List.set_cons_succ]
  refine wpAnyH_take (i := 1) (oi := _) (v := ?_) rfl (by kernel_rfl) (by kernel_rfl) (by kernel_rfl) (fun _ _ _ h => h) (Or.inl ⟨by rfl, ?_⟩) hHeld ?_
  rotate_left
  · intro w hSw
    go_simp
    try with_reducible rfl
  try simp only [List.getElem_toArray, List.getElem_cons_succ, List.getElem_cons_zero, Act.put, List.setIfInBounds_toArray, List.set_cons_zero, List.set_cons_succ]
  refine wpAnyH_take (i := 2) (oi := _) (v := .slice A2 body.length c2) rfl (by kernel_rfl) (by kernel_rfl) (by kernel_rfl) (fun _ _ _ h => h) (Or.inl ⟨by rfl, fun W hSw => ?_⟩) hHeld ?_
  · have hq : W.cell? ⟨w.heap.size, 2, none⟩ = some (.slice A2 body.length c2) := by rw [blk_cell hSw]; rfl
    go_simp
  try simp only [List.getElem_toArray, List.getElem_cons_succ, List.getElem_cons_zero, Act.put, List.setIfInBounds_toArray, List.set_cons_zero, List.set_cons_succ]
  refine wpAnyH_take (i := 3) (oi := _) (v := ?_) rfl (by kernel_rfl) (by kernel_rfl) (by kernel_rfl) (fun _ _ _ h => h) (Or.inl ⟨by rfl, ?_⟩) hHeld ?_
  rotate_left
  · intro w hSw
    go_simp
    try with_reducible rfl
  try simp only [List.getElem_toArray, List.getElem_cons_succ, List.getElem_cons_zero, Act.put, List.setIfInBounds_toArray, List.set_cons_zero, List.set_cons_succ]
  refine wpAnyH_take (i := 6) (oi := _) (v := ?_) rfl (by kernel_rfl) (by kernel_rfl) (by kernel_rfl) (fun _ _ _ h => h) (Or.inl ⟨by rfl, ?_⟩) hHeld ?_
  rotate_left
  · intro w hSw
    go_simp
    try with_reducible rfl
  try simp only [List.getElem_toArray, List.getElem_cons_succ, List.getElem_cons_zero, Act.put, List.setIfInBounds_toArray, List.set_cons_zero, List.set_cons_succ]
  refine wpAnyH_take (i := 7) (oi := _) (v := .slice A2 body.length c2) rfl (by kernel_rfl) (by kernel_rfl) (by kernel_rfl) (fun _ _ _ h => h) (Or.inl ⟨by rfl, fun W hSw => ?_⟩) hHeld ?_
  · have hq : W.cell? ⟨w.heap.size, 2, none⟩ = some (.slice A2 body.length c2) := by rw [blk_cell hSw]; rfl
    go_simp
  try simp only [List.getElem_toArray, List.getElem_cons_succ, List.getElem_cons_zero, Act.put, List.setIfInBounds_toArray, List.set_cons_zero, List.set_cons_succ]
  refine wpAnyH_ready (rs := [4]) (by kernel_rfl) (by simp) ?_
  refine AllReadyH.cons (o := _) rfl (fun K hK => ?_) AllReadyH.nil
  go_simp
  refine hhd.mono ?_
  clear hhd
  rintro e w3 ⟨rfl, hb3⟩
  have hb23 : Below w2.heap.size w2 w3 := ⟨hb3.os, hb3.tape, hb3.output, hb3.size, hb3.block⟩
  have hx3 : w3.heap[w.heap.size]? = some (.cells #[.int .i64 st, .slice A1 hs.length c1, .slice A2 body.length c2] 26 (0, 0)) := (hb23.block _ (by omega)).trans HBX.out
  have HB3 := Lib.hid (HB2.out.trans (hb23.mono HB2.out.size))
  have hsz3 : w.heap.size + 1 ≤ w3.heap.size := Nat.le_trans hsz2 hb23.size
  have hhl := head_len27 st hs body.length HST.out hsz (by omega)
  obtain ⟨hd, hhd⟩ : ∃ hd, headL st (hs.map pairL) body.length = hd := ⟨_, rfl⟩
  rw [hhd] at hhl
  have hcv := Lib.run_convert_string_bytes (P := Tryz.prog) w3 9 22 5 (BA hd) Tryz.underlying9 Tryz.underlying22 Tryz.underlying5
  have hnew := Lib.bytesWorld_at_new w3 5 (BA hd)
  rw [conv_cells] at hnew
  have hgc := rooM_len w3 hd
  rw [ba_size, ← hgc] at hcv
  have hb34 : Below w3.heap.size w3 (Lib.bytesWorld w3 5 (BA hd)) := ⟨rfl, rfl, rfl, by rw [Lib.bytesWorld_size]; omega, fun k hk => Lib.bytesWorld_at_old w3 _ _ k hk⟩
  obtain ⟨w4, hw4⟩ : ∃ W, Lib.bytesWorld w3 5 (BA hd) = W := ⟨_, rfl⟩
  rw [hw4] at hcv hnew hb34
  have hx4 : w4.heap[w.heap.size]? = some (.cells #[.int .i64 st, .slice A1 hs.length c1, .slice A2 body.length c2] 26 (0, 0)) := (hb34.block _ (by omega)).trans hx3
  have HB4 := Lib.hid (HB3.out.trans (hb34.mono HB3.out.size))
  have hsz4 : w.heap.size + 1 ≤ w4.heap.size := Nat.le_trans hsz3 hb34.size
  obtain ⟨v', w5, hra, hsr, hb5⟩ := run_append_conv (P := Tryz.prog) w4 22 22 22 5 i0 Tryz.underlying22 hi hz0 hz1 hz2 (w.heap.size + 1) w3.heap.size hd (rooM w3 hd) _ hsz3 hnew (by simp [bc_len]) (.slice A2 body.length c2) body (srcG_of Tryz.underlying22 (HB.out.block HB4.out)) (by omega) hsz4
  have hx5 : w5.heap[w.heap.size]? = some (.cells #[.int .i64 st, .slice A1 hs.length c1, .slice A2 body.length c2] 26 (0, 0)) := (hb5.block _ (by omega)).trans hx4
  have hfin : RBytesQ st hs body w (.returned (.tuple #[v', .int .i64 0])) w5 := by
    unfold RBytesQ bytesP
    rw [if_pos HW0.out, if_neg (by omega), hhd]
    exact ⟨v', rfl, hsr, HB4.out.trans (hb5.mono (by omega))⟩
  rw [hhd]
  have HF := Lib.hid hfin
  have HX5 := Lib.hid hx5
  have HX4 := Lib.hid hx4
  have HRA := Lib.hid hra
  clear hfin hsr hb5 hb34 hb23 hb3 hx5 hx4 hhl hsz4 hsz3 hsz2 hnew hhd hw4 hra hgc
  go_wp2_with fail
  refine hK.out _ _ hx3 (fun hHeld => ?_)
  clear hK K
  try simp only [List.getElem_toArray, List.getElem_cons_succ, List.getElem_cons_zero, Act.put, List.setIfInBounds_toArray, List.set_cons_zero, List.set_cons_succ]
  refine wpAnyH_ready (rs := [5]) (by kernel_rfl) (by simp) ?_
  refine AllReadyH.cons (o := _) rfl (fun K hK => ?_) AllReadyH.nil
  go_simp
  refine hK.out _ _ HX4.out (fun hHeld => ?_)
  clear hK K
  try simp only [List.getElem_toArray, List.getElem_cons_succ, List.getElem_cons_zero, Act.put, List.setIfInBounds_toArray, List.set_cons_zero, List.set_cons_succ]
  clear hcv hx3
  refine wpAnyH_ready (rs := [8]) (by kernel_rfl) (by simp) ?_
  refine AllReadyH.cons (o := _) rfl (fun K hK => ?_) AllReadyH.nil
  rw [if_pos (by rfl)]
  refine operwp_append _ _ _ _ rfl _ _ rfl rfl HRA.out ?_
  refine hK.out _ _ HX5.out (fun hHeld => ?_)
  clear hK K
  try simp only [List.getElem_toArray, List.getElem_cons_succ, List.getElem_cons_zero, Act.put, List.setIfInBounds_toArray, List.set_cons_zero, List.set_cons_succ]
  refine wpAnyH_take (i := 9) (oi := _) (v := ?_) rfl (by kernel_rfl) (by kernel_rfl) (by kernel_rfl) (fun _ _ _ h => h) (Or.inl ⟨by rfl, ?_⟩) hHeld ?_
  rotate_left
  · intro w hSw
    go_simp
    try with_reducible rfl
  try simp only [List.getElem_toArray, List.getElem_cons_succ, List.getElem_cons_zero, Act.put, List.setIfInBounds_toArray, List.set_cons_zero, List.set_cons_succ]
  refine wpAnyH_take (i := 10) (oi := _) (v := ?_) rfl (by kernel_rfl) (by kernel_rfl) (by kernel_rfl) (fun _ _ _ h => h) (Or.inl ⟨by rfl, ?_⟩) hHeld ?_
  rotate_left
  · intro w hSw
    go_simp
    try with_reducible rfl
  try simp only [List.getElem_toArray, List.getElem_cons_succ, List.getElem_cons_zero, Act.put, List.setIfInBounds_toArray, List.set_cons_zero, List.set_cons_succ]
  refine wpAnyH_done (by kernel_rfl) ?_ _
  clear hHeld
  go_wp2
  go_ret2
  exact HF.out
end Go.Proofs.YtmgpbcpggnlkkaaGreatDoor
end
