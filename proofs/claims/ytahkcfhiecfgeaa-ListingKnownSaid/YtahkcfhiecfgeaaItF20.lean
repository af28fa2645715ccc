/- Listing: the iterator's walk (of versions: true; of keys: false). Printed by wip/gen_it20.py. -/
import Derived.Test.YtahkcfhiecfgeaaProg
import Derived.Test.YtahkcfhiecfgeaaIt20
namespace Go.Proofs.Ytahkcfhiecfgeaa
open Go.RowKit Go.Shelf
set_option linter.unusedVariables false
set_option linter.unusedSimpArgs false
attribute [local go_sem] Oper.semAt_some
set_option maxRecDepth 100000 in
set_option maxHeartbeats 16000000 in
theorem listedF_in (n : Nat) (hn : 2 ≤ n) (l Bl Ba : Nat) (w0 : World) (v : Value) (es : List Ent) (p d : ByteArray) (hE : EntsAt w0 v es) (hel : es.length ≤ 1000000) (hok : ∀ e ∈ es, e.vs ≠ []) (hkey : ∀ e ∈ es, e.key.length ≤ 1000000 ∧ e.vs.length ≤ 1000000) (hMax : ∃ m, w0.cell? ⟨0, 0, none⟩ = some (.int .i64 m)) (hps : p.size ≤ 1000000) (hds : d.size ≤ 1000000) (J Jx : List IxItm → World → Prop) (W : World)
    (hJ : AbidesFrom W.heap.size J)
    (hY : ∀ pre x W1, J pre W1 → pre.length < (listQ p.data.toList d.data.toList false none es).length → YieldAt Fence.wide (n - 1) Try.prog l (encI x) W1 fun e W' =>
      (e = .returned (.bool true) ∧ J (pre ++ [x]) W' ∧ KpL w0.heap.size W1 W') ∨ (e = .returned (.bool false) ∧ Jx (pre ++ [x]) W'))
    (hb : Below w0.heap.size w0 W) (hI : ItAt w0.heap.size Bl Ba v es p d false W) (h0 : J [] W) :
    CallsIn Fence.wide n Try.prog 37 #[.func (.yield l) #[] #[], .pointer (some ⟨Bl, 0, none⟩), .pointer (some ⟨Ba, 0, none⟩)] W fun e W' => (∃ v, e = .returned v) ∧
      ((∃ ys, ys = listQ p.data.toList d.data.toList false none es ∧ J ys W') ∨ (∃ pre, pre <+: listQ p.data.toList d.data.toList false none es ∧ Jx pre W')) := by
  have h1n : 1 ≤ n := by omega
  have h2n : 1 ≤ n - 1 := by omega
  obtain ⟨A0, c0, rfl⟩ := hE.form
  have hcl : W.cell? ⟨Bl, 0, none⟩ = some (.slice A0 es.length c0) := by rw [cell_of_row _ _ 0 _ _ (0, 0) hI.l]; rfl
  refine callsIn_of_wp Try.func37 rfl trivial ?_ rfl
  simp only [Try.ntmps37, List.size_toArray, List.length_cons, List.length_nil, Nat.reduceAdd, Nat.reduceSub, Array.replicate_succ, Array.replicate_zero, List.push_toArray, List.append_toArray, List.nil_append, List.cons_append]
  obtain ⟨LQ, hLQ⟩ : ∃ LQ, listQ p.data.toList d.data.toList false none es = LQ := ⟨_, rfl⟩
  rw [hLQ] at hY ⊢
  have HLQ := Lib.hid hLQ
  have HE := Lib.hid hE
  have HI := Lib.hid hI
  clear hLQ hE hI
  gi_wp2
  gi_loopw [4, 15] (fun lp i wr => ∃ (k : Nat) (last : Option Bs) (pre : List IxItm), k ≤ es.length ∧ i = .int .i64 k ∧ LastAt w0.heap.size wr lp last ∧ J pre wr ∧ Below w0.heap.size w0 wr ∧ Hid (KpL w0.heap.size W wr) ∧ Hid (pre ++ listQ p.data.toList d.data.toList false last (es.drop k) = LQ)) (fun _ i _ => es.length - (intOf i).toNat)
  case atStart => exact ⟨0, none, [], Nat.zero_le _, rfl, .inl ⟨rfl, rfl⟩, h0, hb, Lib.hid (KpL.ofBelow hb.size (Below.refl _ _)), Lib.hid (by simpa using HLQ.out)⟩
  case round =>
    obtain ⟨k, last, pre, hk, rfl, hlast, hJs, hbw, HK, H⟩ := hrel
    by_cases hlt : k < es.length
    · obtain ⟨b, off, e, x, rfl, he, hd, hc00, hc10, hvs0⟩ := HE.out.at hlt
      have hc0 := below_cell hbw hc00
      have hc1 := below_cell hbw hc10
      have hvs := hvs0.block hbw
      clear hc00 hc10
      obtain ⟨Ax, cx, rfl⟩ := hvs.form
      rw [List.length_map] at hc1 hvs hvs0
      have HVS := Lib.hid hvs0
      clear hvs0
      have hIk := HI.out.keep HK.out
      have ca0 : ∀ o, (wr.alloc o).cell? ⟨Ba, 0, none⟩ = some (.string p) := fun o => below_cell ((Below.refl _ wr).alloc (Nat.le_refl _) o) (by rw [cell_of_row _ _ 0 _ _ (0, 0) hIk.a]; rfl)
      have ca1 : ∀ o, (wr.alloc o).cell? ⟨Ba, 1, none⟩ = some (.string d) := fun o => below_cell ((Below.refl _ wr).alloc (Nat.le_refl _) o) (by rw [cell_of_row _ _ 1 _ _ (0, 0) hIk.a]; rfl)
      have ca2 : ∀ o, (wr.alloc o).cell? ⟨Ba, 2, none⟩ = some (.bool false) := fun o => below_cell ((Below.refl _ wr).alloc (Nat.le_refl _) o) (by rw [cell_of_row _ _ 2 _ _ (0, 0) hIk.a]; rfl)
      have hstep := H.out
      rw [hd] at hstep
      have hsz := hbw.size
      have hn0 : w0.heap.size ≤ wr.heap.size := hsz
      have HADV := Lib.hid (show ∀ W2, Below wr.heap.size wr W2 → LastAt w0.heap.size W2 u4 last ∧ Below w0.heap.size w0 W2 ∧ KpL w0.heap.size W W2 from fun W2 h2 =>
        have hk2 := KpL.ofBelow hn0 h2
        ⟨hlast.keep hk2, hbw.trans (h2.mono hn0), HK.out.trans hk2⟩)
      clear hIk
      by_cases hpre : Lib.hasPrefix (BA e.key).data.toList p.data.toList = true
      · have hHP := Try.strings_HasPrefix (BA e.key) p
        rw [hpre] at hHP
        have hpk : p.data.toList <+: e.key := List.isPrefixOf_iff_prefix.1 (by simpa [Lib.hasPrefix] using hpre)
        obtain ⟨v1, vr, hvv⟩ : ∃ v1 vr, e.vs = v1 :: vr := by
          cases hv : e.vs with
          | nil => exact absurd hv (hok e (List.mem_of_getElem? he))
          | cons a r => exact ⟨a, r, rfl⟩
        obtain ⟨b2, off2, rfl, hcap, hcv⟩ := hvs.at (i := 0) (row := verC v1) (by rw [hvv]; rfl)
        have hmk : ∀ o, (wr.alloc o).cell? ⟨b2, off2 + 2, none⟩ = some (.bool v1.mark) := fun o => below_cell ((Below.refl _ wr).alloc (Nat.le_refl _) o) (by have h := hcv 2 (.bool v1.mark) rfl; simpa using h)
        have hlen0 : 0 < (e.vs.length : Int) := by rw [hvv]; simp
        by_cases hm : v1.mark = true
        · rw [hm] at hmk
          have hsk : skips p.data.toList false e = true := by simp [skips, firstV, hvv, hm]
          have HS := Lib.hid (show pre ++ listQ p.data.toList d.data.toList false last (es.drop (k + 1)) = LQ by rw [← hstep]; conv => rhs; unfold listQ; rw [if_pos hsk])
          have hJ2 := fun o => abides_below hJ (W := wr) hJs o
          clear hstep hd he hvs hpre hsk H hpk hvv hcv hm
          gi_wp2_with (refine ⟨trivial, ?_⟩; gi_at_call 38; refine (callsIn_wide.2 (hHP _)).mono ?_; rintro e w' ⟨rfl, rfl⟩)
          have hadv := HADV.out _ ((Below.refl _ wr).alloc (Nat.le_refl _) (.cells #[.string (BA e.key), .slice (some ⟨b2, off2, none⟩) e.vs.length cx] 47))
          go_roundw
          case rel => exact ⟨k + 1, last, pre, by omega, by go_num, hadv.1, hJ2 _, hadv.2.1, Lib.hid hadv.2.2, HS⟩
          case measure => simp [intOf]; omega
        · have hm' : v1.mark = false := by simpa using hm
          have hsk : skips p.data.toList false e = false := by
            unfold skips firstV
            rw [hvv]
            have h1 : p.data.toList.isPrefixOf e.key = true := List.isPrefixOf_iff_prefix.2 hpk
            simp [h1, hm']
          rw [hm'] at hmk
          clear hm hm'
          have hrest := hstep
          unfold listQ at hrest
          rw [if_neg (by rw [hsk]; simp)] at hrest
          clear hstep H hsk
          by_cases hd0 : d.data.toList = []
          · have hcm : commonL p.data.toList d.data.toList e.key = none := by unfold commonL; rw [if_pos hd0]
            rw [hcm] at hrest
            simp only at hrest
            replace hrest := Lib.hid hrest
            obtain rfl : d = ⟨#[]⟩ := bs_ext hd0
            have HVV := Lib.hid hvv
            have HHE := Lib.hid he
            clear hcm hd0 hvv hcv hvs hpk he hd
            gi_wp2_with (refine ⟨trivial, ?_⟩; gi_at_call 38; refine (callsIn_wide.2 (hHP _)).mono ?_; rintro e w' ⟨rfl, rfl⟩)
            obtain ⟨W1, hW1⟩ : ∃ W1, wr.alloc (.cells #[.string (BA e.key), .slice (some ⟨b2, off2, none⟩) e.vs.length cx] 47) = W1 := ⟨_, rfl⟩
            have hbx : Below wr.heap.size wr W1 := by rw [← hW1]; exact (Below.refl _ wr).alloc (Nat.le_refl _) _
            have hJ1 : J pre W1 := by rw [← hW1]; exact abides_below hJ hJs _
            have hrE0 : W1.heap[wr.heap.size]? = some (.cells #[.string (BA e.key), .slice (some ⟨b2, off2, none⟩) e.vs.length cx] 47 (0, 0)) := by rw [← hW1]; exact heap_alloc_new wr _
            rw [hW1]
            obtain ⟨hl1, hb1, hk1⟩ := HADV.out _ hbx
            have HK1 := Lib.hid hk1
            clear hW1 hbx hk1 ca0 ca1 ca2 hc0 hc1 HADV hlast hJs
            obtain ⟨wo, rfl⟩ : ∃ wo : World, wo = wr := ⟨_, rfl⟩
            have hce1 : W1.cell? ⟨wo.heap.size, 1, none⟩ = some (.slice (some ⟨b2, off2, none⟩) e.vs.length cx) := by rw [cell_of_row _ _ 1 _ _ (0, 0) hrE0]; rfl
            have hvl : e.vs.length ≤ 1000000 := (hkey e (List.mem_of_getElem? HHE.out)).2
            have HRE := Lib.hid hrE0
            have HR := hrest
            clear hrE0 hrest
            have hx0 : ixItms 0 (itemsOf false e) = [(0, ⟨e.key, false, v1, false⟩)] := by simp [itemsOf, firstV, HVV.out, ixItms]
            have HS := Lib.hid (show pre ++ (0, ⟨e.key, false, v1, false⟩) :: listQ _ _ false last (es.drop (k + 1)) = LQ by rw [← HR.out, hx0]; rfl)
            have hlen : pre.length < LQ.length := by rw [← HS.out]; simp
            have hck : W1.cell? ⟨wo.heap.size, 0, none⟩ = some (.string (BA e.key)) := by rw [cell_of_row _ _ 0 _ _ (0, 0) HRE.out]; rfl
            have hI2 := HI.out.keep HK1.out
            have hcv : W1.cell? ⟨Ba, 2, none⟩ = some (.bool false) := by rw [cell_of_row _ _ 2 _ _ (0, 0) hI2.a]; rfl
            have HCK := Lib.hid hck
            have HCV := Lib.hid hcv
            clear hx0 HR hck hI2 hcv
            gi_wp2
            gi_loopw [78] (fun i wq => i = .int .i64 0 ∧ wq = W1) (fun _ _ => 0)
            case atStart => exact ⟨rfl, rfl⟩
            case round =>
              obtain ⟨rfl, rfl⟩ := hrel
              obtain ⟨b3, off3, hA3, -, hcv3⟩ := (HVS.out.block hb1).at (i := 0) (row := verC v1) (by simp [HVV.out])
              injection hA3 with hA3
              injection hA3 with hA3 hB3 _
              subst hA3 hB3
              have d0 := hcv3 0 _ rfl
              have d1 := hcv3 1 _ rfl
              have d2 := hcv3 2 _ rfl
              have d3 := hcv3 3 _ rfl
              have d4 := hcv3 4 _ rfl
              simp only [Nat.zero_mul, Nat.add_zero] at d0 d1 d2 d3 d4
              have ck : ∀ o, (wr.alloc o).cell? ⟨wo.heap.size, 0, none⟩ = some (.string (BA e.key)) := fun o => below_cell ((Below.refl _ wr).alloc (Nat.le_refl _) o) HCK.out
              have cv : ∀ o, (wr.alloc o).cell? ⟨Ba, 2, none⟩ = some (.bool false) := fun o => below_cell ((Below.refl _ wr).alloc (Nat.le_refl _) o) HCV.out
              obtain ⟨VB, hVB⟩ : ∃ VB, Obj.cells #[.string (BA v1.id), .int .i64 v1.time, .bool v1.mark, .int .i64 v1.size, .string (BA v1.etag)] 37 (0, 0) = VB := ⟨_, rfl⟩
              have hJv := abides_below hJ hJ1 VB
              have HKv := Lib.hid (KpL.ofBelow (n₀ := w0.heap.size) hb1.size ((Below.refl _ wr).alloc (Nat.le_refl _) VB))
              have hbv := hb1.alloc hb1.size VB
              obtain ⟨fn, tmps, assign, body, hy, hR⟩ := hY pre (0, ⟨e.key, false, v1, false⟩) _ hJv hlen
              have hy2 : (Instr.yield l #[.int .i64 0, .agg #[.string (BA e.key), .bool false, .string (BA v1.id), .int .i64 v1.time, .bool v1.mark, .int .i64 v1.size, .string (BA v1.etag), .bool false]]).run Try.prog (wr.alloc VB) = .ok (.round l fn tmps assign body) (wr.alloc VB) := hy
              subst hVB
              clear hcv3 hy hJv
              gi_wp2
              refine hR.mono ?_
              rintro e2 W3 (⟨rfl, hJ4, hk4⟩ | ⟨rfl, hJx⟩)
              · have hk5 := HK1.out.trans (HKv.out.trans hk4)
                have hI3 := HI.out.keep hk5
                have cv3 : W3.cell? ⟨Ba, 2, none⟩ = some (.bool false) := by rw [cell_of_row _ _ 2 _ _ (0, 0) hI3.a]; rfl
                have HK5 := Lib.hid hk5
                have HL := Lib.hid ((hl1.keep HKv.out).keep hk4)
                have hb5 := hbv.trans hk4.1
                clear hI3 hk5 hk4 ck cv d0 d1 d2 d3 d4 hl1
                gi_wp2
                go_roundw
                case rel => exact ⟨k + 1, last, _, by omega, by go_num, HL.out, hJ4, hb5, HK5, Lib.hid (by rw [← HS.out]; simp)⟩
                case measure => simp [intOf]; omega
              · gi_wp2
                refine bodyPost_ret (results_none rfl _ _ _) rfl ?_
                exact ⟨⟨_, rfl⟩, .inr ⟨_, (by rw [← HS.out]; exact ⟨_, List.append_assoc _ [_] _⟩), hJx⟩⟩
          · have hd1 : d.toList.isEmpty = false := by rw [bs_toList]; cases h : d.data.toList with
              | nil => exact absurd h hd0
              | cons a r => rfl
            obtain ⟨m0, hm0⟩ := hMax
            have hmx : ∀ o, (wr.alloc o).cell? ⟨0, 0, none⟩ = some (.int .i64 m0) := fun o => below_cell ((Below.refl _ wr).alloc (Nat.le_refl _) o) ((hbw.cell (p := ⟨0, 0, none⟩) (cell_lt hm0)).trans hm0)
            obtain ⟨q, hq⟩ := hpk
            have hkl : p.data.toList.length ≤ e.key.length := by rw [← hq]; simp
            have hsl := fun W => slice_from (P := Try.prog) 9 Try.underlying9 .i64 (BA e.key) (p.size : Int) p.size rfl (by rw [bs_len]; simpa [ByteArray.size_mk'] using hkl) W
            obtain ⟨rest, hr1⟩ : ∃ rest : ByteArray, (⟨((BA e.key).data.toList.drop p.size).toArray⟩ : ByteArray) = rest := ⟨_, rfl⟩
            have hr2 : rest.data.toList = e.key.drop p.data.toList.length := by rw [← hr1, bs_len]
            rw [hr1] at hsl
            have hkb : rest.size < 4294967281 := by rw [bs_len, hr2, List.length_drop]; have := (hkey e (List.mem_of_getElem? he)).1; omega
            have hcut := fun W h => Try.strings_Cut rest d m0 W hkb h
            rw [hr2] at hcut
            rcases cut_head d.data.toList hd0 (e.key.drop p.data.toList.length) with ⟨hh, hc⟩ | ⟨hx, tx, hh, hc⟩
            · rw [hc] at hcut
              have hcm : commonL p.data.toList d.data.toList e.key = none := by unfold commonL; rw [if_neg hd0, hh]; rfl
              rw [hcm] at hrest
              simp only at hrest
              replace hrest := Lib.hid hrest
              have HVV := Lib.hid hvv
              have HHE := Lib.hid he
              clear hcm hc hh hr2 hr1 hq hvv hcv hvs he hd
              gi_wp2_with (refine ⟨trivial, ?_⟩; gi_at_call 38; refine (callsIn_wide.2 (hHP _)).mono ?_; rintro e w' ⟨rfl, rfl⟩)
              have hFw : ∀ f, Fence.wide.fn f := fun _ => trivial
              gi_quiet_th ((exact quiet_drew hcut (hmx _)))
              obtain ⟨W1, hW1⟩ : ∃ W1, (wr.alloc (.cells #[.string (BA e.key), .slice (some ⟨b2, off2, none⟩) e.vs.length cx] 47)).drewN nq = W1 := ⟨_, rfl⟩
              have hbx : Below wr.heap.size wr W1 := by rw [← hW1]; exact below_drewN ((Below.refl _ wr).alloc (Nat.le_refl _) _) _
              have hJ1 : J pre W1 := by rw [← hW1]; exact abides_drewN hJ (abides_below hJ hJs _) _
              have hrE0 : W1.heap[wr.heap.size]? = some (.cells #[.string (BA e.key), .slice (some ⟨b2, off2, none⟩) e.vs.length cx] 47 (0, 0)) := by rw [← hW1]; exact heap_alloc_new wr _
              rw [hW1]
              obtain ⟨hl1, hb1, hk1⟩ := HADV.out _ hbx
              have HK1 := Lib.hid hk1
              have hI1 := HI.out.keep hk1
              have ca0' : W1.cell? ⟨Ba, 0, none⟩ = some (.string p) := by rw [cell_of_row _ _ 0 _ _ (0, 0) hI1.a]; rfl
              have ca1' : W1.cell? ⟨Ba, 1, none⟩ = some (.string d) := by rw [cell_of_row _ _ 1 _ _ (0, 0) hI1.a]; rfl
              clear hW1 hbx hk1 ca0 ca1 ca2 hcut hmx hc0 hc1 hI1 HADV hlast hJs
              obtain ⟨wo, rfl⟩ : ∃ wo : World, wo = wr := ⟨_, rfl⟩
              have hce1 : W1.cell? ⟨wo.heap.size, 1, none⟩ = some (.slice (some ⟨b2, off2, none⟩) e.vs.length cx) := by rw [cell_of_row _ _ 1 _ _ (0, 0) hrE0]; rfl
              have hvl : e.vs.length ≤ 1000000 := (hkey e (List.mem_of_getElem? HHE.out)).2
              have HRE := Lib.hid hrE0
              have HR := hrest
              clear hrE0 hrest
              have hx0 : ixItms 0 (itemsOf false e) = [(0, ⟨e.key, false, v1, false⟩)] := by simp [itemsOf, firstV, HVV.out, ixItms]
              have HS := Lib.hid (show pre ++ (0, ⟨e.key, false, v1, false⟩) :: listQ _ _ false last (es.drop (k + 1)) = LQ by rw [← HR.out, hx0]; rfl)
              have hlen : pre.length < LQ.length := by rw [← HS.out]; simp
              have hck : W1.cell? ⟨wo.heap.size, 0, none⟩ = some (.string (BA e.key)) := by rw [cell_of_row _ _ 0 _ _ (0, 0) HRE.out]; rfl
              have hI2 := HI.out.keep HK1.out
              have hcv : W1.cell? ⟨Ba, 2, none⟩ = some (.bool false) := by rw [cell_of_row _ _ 2 _ _ (0, 0) hI2.a]; rfl
              have HCK := Lib.hid hck
              have HCV := Lib.hid hcv
              clear hx0 HR hck hI2 hcv
              gi_wp2
              gi_loopw [78] (fun i wq => i = .int .i64 0 ∧ wq = W1) (fun _ _ => 0)
              case atStart => exact ⟨rfl, rfl⟩
              case round =>
                obtain ⟨rfl, rfl⟩ := hrel
                obtain ⟨b3, off3, hA3, -, hcv3⟩ := (HVS.out.block hb1).at (i := 0) (row := verC v1) (by simp [HVV.out])
                injection hA3 with hA3
                injection hA3 with hA3 hB3 _
                subst hA3 hB3
                have d0 := hcv3 0 _ rfl
                have d1 := hcv3 1 _ rfl
                have d2 := hcv3 2 _ rfl
                have d3 := hcv3 3 _ rfl
                have d4 := hcv3 4 _ rfl
                simp only [Nat.zero_mul, Nat.add_zero] at d0 d1 d2 d3 d4
                have ck : ∀ o, (wr.alloc o).cell? ⟨wo.heap.size, 0, none⟩ = some (.string (BA e.key)) := fun o => below_cell ((Below.refl _ wr).alloc (Nat.le_refl _) o) HCK.out
                have cv : ∀ o, (wr.alloc o).cell? ⟨Ba, 2, none⟩ = some (.bool false) := fun o => below_cell ((Below.refl _ wr).alloc (Nat.le_refl _) o) HCV.out
                obtain ⟨VB, hVB⟩ : ∃ VB, Obj.cells #[.string (BA v1.id), .int .i64 v1.time, .bool v1.mark, .int .i64 v1.size, .string (BA v1.etag)] 37 (0, 0) = VB := ⟨_, rfl⟩
                have hJv := abides_below hJ hJ1 VB
                have HKv := Lib.hid (KpL.ofBelow (n₀ := w0.heap.size) hb1.size ((Below.refl _ wr).alloc (Nat.le_refl _) VB))
                have hbv := hb1.alloc hb1.size VB
                obtain ⟨fn, tmps, assign, body, hy, hR⟩ := hY pre (0, ⟨e.key, false, v1, false⟩) _ hJv hlen
                have hy2 : (Instr.yield l #[.int .i64 0, .agg #[.string (BA e.key), .bool false, .string (BA v1.id), .int .i64 v1.time, .bool v1.mark, .int .i64 v1.size, .string (BA v1.etag), .bool false]]).run Try.prog (wr.alloc VB) = .ok (.round l fn tmps assign body) (wr.alloc VB) := hy
                subst hVB
                clear hcv3 hy hJv
                gi_wp2
                refine hR.mono ?_
                rintro e2 W3 (⟨rfl, hJ4, hk4⟩ | ⟨rfl, hJx⟩)
                · have hk5 := HK1.out.trans (HKv.out.trans hk4)
                  have hI3 := HI.out.keep hk5
                  have cv3 : W3.cell? ⟨Ba, 2, none⟩ = some (.bool false) := by rw [cell_of_row _ _ 2 _ _ (0, 0) hI3.a]; rfl
                  have HK5 := Lib.hid hk5
                  have HL := Lib.hid ((hl1.keep HKv.out).keep hk4)
                  have hb5 := hbv.trans hk4.1
                  clear hI3 hk5 hk4 ck cv d0 d1 d2 d3 d4 hl1
                  gi_wp2
                  go_roundw
                  case rel => exact ⟨k + 1, last, _, by omega, by go_num, HL.out, hJ4, hb5, HK5, Lib.hid (by rw [← HS.out]; simp)⟩
                  case measure => simp [intOf]; omega
                · gi_wp2
                  refine bodyPost_ret (results_none rfl _ _ _) rfl ?_
                  exact ⟨⟨_, rfl⟩, .inr ⟨_, (by rw [← HS.out]; exact ⟨_, List.append_assoc _ [_] _⟩), hJx⟩⟩
            · rw [hc] at hcut
              obtain ⟨c, hcd⟩ : ∃ c, p.data.toList ++ hx ++ d.data.toList = c := ⟨_, rfl⟩
              have hcm : commonL p.data.toList d.data.toList e.key = some c := by unfold commonL; rw [if_neg hd0, hh, ← hcd]; rfl
              have hcb : (p ++ BA hx ++ d : ByteArray) = BA c := bs_ext (by rw [bs_app, bs_app]; exact hcd)
              have hxl : hx.length ≤ 1000000 := by
                obtain ⟨r, hr⟩ := headL_some _ _ _ hh
                have h1 := congrArg List.length hr
                have h2 := (hkey e (List.mem_of_getElem? he)).1
                rw [List.length_drop, List.length_append, List.length_append] at h1
                omega
              clear hcd
              rw [hcm] at hrest
              simp only at hrest
              have HR := Lib.hid hrest
              clear hcm hrest hc hh hr2 hr1 hd he hq hvv hcv hvs
              gi_wp2_with (refine ⟨trivial, ?_⟩; gi_at_call 38; refine (callsIn_wide.2 (hHP _)).mono ?_; rintro e w' ⟨rfl, rfl⟩)
              have hFw : ∀ f, Fence.wide.fn f := fun _ => trivial
              gi_quiet_th ((exact quiet_drew hcut (hmx _)))
              obtain ⟨W1, hW1⟩ : ∃ W1, (wr.alloc (.cells #[.string (BA e.key), .slice (some ⟨b2, off2, none⟩) e.vs.length cx] 47)).drewN nq = W1 := ⟨_, rfl⟩
              have hbx : Below wr.heap.size wr W1 := by rw [← hW1]; exact below_drewN ((Below.refl _ wr).alloc (Nat.le_refl _) _) _
              have hJ1 : J pre W1 := by rw [← hW1]; exact abides_drewN hJ (abides_below hJ hJs _) _
              have hrE0 : W1.heap[wr.heap.size]? = some (.cells #[.string (BA e.key), .slice (some ⟨b2, off2, none⟩) e.vs.length cx] 47 (0, 0)) := by rw [← hW1]; exact heap_alloc_new wr _
              rw [hW1]
              obtain ⟨hl1, hb1, hk1⟩ := HADV.out _ hbx
              have HK1 := Lib.hid hk1
              have hI1 := HI.out.keep hk1
              have ca0' : W1.cell? ⟨Ba, 0, none⟩ = some (.string p) := by rw [cell_of_row _ _ 0 _ _ (0, 0) hI1.a]; rfl
              have ca1' : W1.cell? ⟨Ba, 1, none⟩ = some (.string d) := by rw [cell_of_row _ _ 1 _ _ (0, 0) hI1.a]; rfl
              clear hW1 hbx hk1 ca0 ca1 ca2 hcut hmx hc0 hc1 hI1 HADV hlast hJs
              clear hrE0
              have hxb : (BA hx).size ≤ 1000000 := by rw [ByteArray.size_mk']; simpa using hxl
              rcases hl1 with ⟨rfl, rfl⟩ | ⟨bl, cl, rfl, rfl, hnb, hlrow⟩
              · have HS := Lib.hid (show pre ++ (0, comItm c) :: listQ p.data.toList d.data.toList false (some c) (es.drop (k + 1)) = LQ by have h := HR.out; rw [if_neg (by first | (simp; done) | (simp; exact hcc))] at h; exact h)
                have hlen : pre.length < LQ.length := by rw [← HS.out]; simp
                have hJ2 := fun o m => abides_drewN hJ (abides_below hJ (W := W1) hJ1 o) m
                have HJ2 := Lib.hid hJ2
                have hK2 := fun (o : Obj) (m : Nat) => KpL.ofBelow hb1.size (below_drewN ((Below.refl _ W1).alloc (Nat.le_refl _) o) m)
                have HK2 := Lib.hid hK2
                clear hJ2 hK2 HR
                gi_wp2
                gi_quiet_th ((fail))
                obtain ⟨W2, hW2⟩ : ∃ W2, (W1.alloc (.cells #[.string (BA c)] 9)).drewN nq = W2 := ⟨_, rfl⟩
                rw [hW2]
                have hJ3 : J pre W2 := by rw [← hW2]; exact HJ2.out _ _
                have hK3 : KpL w0.heap.size W1 W2 := by rw [← hW2]; exact HK2.out _ _
                have hr3 : W2.heap[W1.heap.size]? = some (.cells #[.string (BA c)] 9 (0, 0)) := by rw [← hW2]; exact heap_alloc_new W1 _
                obtain ⟨gB, hgB⟩ : ∃ gB, W1.heap.size = gB := ⟨_, rfl⟩
                have hgn : w0.heap.size ≤ gB := by rw [← hgB]; exact hb1.size
                rw [hgB] at hr3 ⊢
                have hcx : W2.cell? ⟨gB, 0, none⟩ = some (.string (BA c)) := by rw [cell_of_row _ _ 0 _ _ (0, 0) hr3]; rfl
                have HK3 := Lib.hid hK3
                have HR3 := Lib.hid hr3
                obtain ⟨fn, tmps, assign, body, hy, hR⟩ := hY pre (0, comItm c) W2 hJ3 hlen
                have hy2 : (Instr.yield l #[.int .i64 0, .agg #[.string (BA c), .bool true, .string ⟨#[]⟩, .int .i64 0, .bool false, .int .i64 0, .string ⟨#[]⟩, .bool false]]).run Try.prog W2 = .ok (.round l fn tmps assign body) W2 := hy
                clear hW2 hgB hK3 hr3 HK2 HJ2 hy
                gi_wp2
                refine hR.mono ?_
                rintro e W3 (⟨rfl, hJ4, hk4⟩ | ⟨rfl, hJx⟩)
                · have hb4 := hk4.1
                  have hb3 := HK3.out.1
                  gi_wp2
                  go_roundw
                  case rel => exact ⟨k + 1, some c, pre ++ [(0, comItm c)], by omega, by go_num, LastAt.keep (.inr ⟨gB, c, rfl, rfl, hgn, HR3.out⟩) hk4, hJ4, (hb1.trans hb3).trans hb4, Lib.hid ((HK1.out.trans HK3.out).trans hk4), Lib.hid (by rw [← HS.out]; simp)⟩
                  case measure => simp [intOf]; omega
                · gi_wp2
                  refine bodyPost_ret (results_none rfl _ _ _) rfl ?_
                  exact ⟨⟨_, rfl⟩, .inr ⟨pre ++ [(0, comItm c)], ⟨listQ p.data.toList d.data.toList false (some c) (es.drop (k + 1)), by rw [← HS.out]; simp⟩, hJx⟩⟩
              · have hlc : ∀ o, (W1.alloc o).cell? ⟨bl, 0, none⟩ = some (.string (BA cl)) := fun o => below_cell ((Below.refl _ W1).alloc (Nat.le_refl _) o) (by rw [cell_of_row _ _ 0 _ _ (0, 0) hlrow]; rfl)
                by_cases hcc : cl = c
                · subst hcc
                  have HS := Lib.hid (show pre ++ listQ p.data.toList d.data.toList false (some cl) (es.drop (k + 1)) = LQ by have h := HR.out; rw [if_pos rfl] at h; exact h)
                  have hJ2 := fun o m => abides_drewN hJ (abides_below hJ (W := W1) hJ1 o) m
                  have hb2' := fun (o : Obj) (m : Nat) => below_drewN (hb1.alloc hb1.size o) m
                  have hK2 := fun (o : Obj) (m : Nat) => KpL.ofBelow hb1.size (below_drewN ((Below.refl _ W1).alloc (Nat.le_refl _) o) m)
                  have HK2 := Lib.hid hK2
                  clear hK2
                  gi_wp2
                  gi_quiet_th ((fail))
                  gi_wp2
                  go_roundw
                  case rel => exact ⟨k + 1, some cl, pre, by omega, by go_num, LastAt.keep (.inr ⟨bl, cl, rfl, rfl, hnb, hlrow⟩) (HK2.out _ _), hJ2 _ _, hb2' _ _, Lib.hid (HK1.out.trans (HK2.out _ _)), HS⟩
                  case measure => simp [intOf]; omega
                · have hne1 : ((BA cl).toList == (BA c).toList) = false := by rw [ba_toList, ba_toList]; simp [hcc]
                  have hne2 : (cl == c) = false := by simp [hcc]
                  have HS := Lib.hid (show pre ++ (0, comItm c) :: listQ p.data.toList d.data.toList false (some c) (es.drop (k + 1)) = LQ by have h := HR.out; rw [if_neg (by first | (simp; done) | (simp; exact hcc))] at h; exact h)
                  have hlen : pre.length < LQ.length := by rw [← HS.out]; simp
                  have hJ2 := fun o m => abides_drewN hJ (abides_below hJ (W := W1) hJ1 o) m
                  have HJ2 := Lib.hid hJ2
                  have hK2 := fun (o : Obj) (m : Nat) => KpL.ofBelow hb1.size (below_drewN ((Below.refl _ W1).alloc (Nat.le_refl _) o) m)
                  have HK2 := Lib.hid hK2
                  clear hJ2 hK2 HR
                  gi_wp2
                  gi_quiet_th ((fail))
                  obtain ⟨W2, hW2⟩ : ∃ W2, (W1.alloc (.cells #[.string (BA c)] 9)).drewN nq = W2 := ⟨_, rfl⟩
                  rw [hW2]
                  have hJ3 : J pre W2 := by rw [← hW2]; exact HJ2.out _ _
                  have hK3 : KpL w0.heap.size W1 W2 := by rw [← hW2]; exact HK2.out _ _
                  have hr3 : W2.heap[W1.heap.size]? = some (.cells #[.string (BA c)] 9 (0, 0)) := by rw [← hW2]; exact heap_alloc_new W1 _
                  obtain ⟨gB, hgB⟩ : ∃ gB, W1.heap.size = gB := ⟨_, rfl⟩
                  have hgn : w0.heap.size ≤ gB := by rw [← hgB]; exact hb1.size
                  rw [hgB] at hr3 ⊢
                  have hcx : W2.cell? ⟨gB, 0, none⟩ = some (.string (BA c)) := by rw [cell_of_row _ _ 0 _ _ (0, 0) hr3]; rfl
                  have HK3 := Lib.hid hK3
                  have HR3 := Lib.hid hr3
                  obtain ⟨fn, tmps, assign, body, hy, hR⟩ := hY pre (0, comItm c) W2 hJ3 hlen
                  have hy2 : (Instr.yield l #[.int .i64 0, .agg #[.string (BA c), .bool true, .string ⟨#[]⟩, .int .i64 0, .bool false, .int .i64 0, .string ⟨#[]⟩, .bool false]]).run Try.prog W2 = .ok (.round l fn tmps assign body) W2 := hy
                  clear hW2 hgB hK3 hr3 HK2 HJ2 hy
                  gi_wp2
                  refine hR.mono ?_
                  rintro e W3 (⟨rfl, hJ4, hk4⟩ | ⟨rfl, hJx⟩)
                  · have hb4 := hk4.1
                    have hb3 := HK3.out.1
                    gi_wp2
                    go_roundw
                    case rel => exact ⟨k + 1, some c, pre ++ [(0, comItm c)], by omega, by go_num, LastAt.keep (.inr ⟨gB, c, rfl, rfl, hgn, HR3.out⟩) hk4, hJ4, (hb1.trans hb3).trans hb4, Lib.hid ((HK1.out.trans HK3.out).trans hk4), Lib.hid (by rw [← HS.out]; simp)⟩
                    case measure => simp [intOf]; omega
                  · gi_wp2
                    refine bodyPost_ret (results_none rfl _ _ _) rfl ?_
                    exact ⟨⟨_, rfl⟩, .inr ⟨pre ++ [(0, comItm c)], ⟨listQ p.data.toList d.data.toList false (some c) (es.drop (k + 1)), by rw [← HS.out]; simp⟩, hJx⟩⟩
      · have hpre' : Lib.hasPrefix (BA e.key).data.toList p.data.toList = false := by simpa using hpre
        have hHP := Try.strings_HasPrefix (BA e.key) p
        rw [hpre'] at hHP
        have hsk : skips p.data.toList false e = true := by
          unfold skips
          simp only [Bool.or_eq_true, Bool.not_eq_true']
          left
          have h := hpre'
          simp [Lib.hasPrefix] at h
          simpa using h
        have HS := Lib.hid (show pre ++ listQ p.data.toList d.data.toList false last (es.drop (k + 1)) = LQ by rw [← hstep]; conv => rhs; unfold listQ; rw [if_pos hsk])
        have hJ2 := fun o => abides_below hJ (W := wr) hJs o
        clear hstep hd he hvs hpre hpre' hsk H
        gi_wp2_with (refine ⟨trivial, ?_⟩; gi_at_call 38; refine (callsIn_wide.2 (hHP _)).mono ?_; rintro e w' ⟨rfl, rfl⟩)
        have hadv := HADV.out _ ((Below.refl _ wr).alloc (Nat.le_refl _) (.cells #[.string (BA e.key), .slice Ax e.vs.length cx] 47))
        go_roundw
        case rel => exact ⟨k + 1, last, pre, by omega, by go_num, hadv.1, hJ2 _, hadv.2.1, Lib.hid hadv.2.2, HS⟩
        case measure => simp [intOf]; omega
    · obtain rfl : k = es.length := by omega
      have hfin : pre = LQ := by have h := H.out; rw [List.drop_of_length_le (Nat.le_refl _)] at h; simpa [listQ] using h
      have HF := Lib.hid hfin
      clear hfin
      gi_wp2
      go_end0
      exact ⟨⟨_, rfl⟩, .inl ⟨pre, HF.out, hJs⟩⟩
end Go.Proofs.Ytahkcfhiecfgeaa
