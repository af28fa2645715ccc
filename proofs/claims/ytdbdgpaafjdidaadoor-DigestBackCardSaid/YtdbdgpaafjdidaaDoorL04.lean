/- digest.Tags. -/
import Derived.Test.YtdbdgpaafjdidaaDoorProg
import Derived.Test.YtdbdgpaafjdidaaDoorK04
namespace Go.Proofs.YtdbdgpaafjdidaaDoor
open Go.RowKit
set_option linter.unusedVariables false
set_option linter.unusedSimpArgs false
/-- The bytes of tags, one behind the other; none: one is no tag. -/
def tagsA : List ByteArray → List UInt8 → Option (List UInt8)
  | [], acc => some acc
  | s :: r, acc => match undig s.data.toList with
    | some m => if m.length = 16 then tagsA r (acc ++ m) else none
    | none => none
def decS (n : Nat) : ByteArray := ⟨(Lib.decDigits n).toArray⟩
def tagsV (ls : List ByteArray) : ByteArray × Int := if 32 < ls.length then (⟨#[]⟩, 3) else match tagsA ls [] with
  | some all => (tagS all ++ ⟨#[45]⟩ ++ decS ls.length, 0)
  | none => (⟨#[]⟩, 4)
theorem dec_len (n : Nat) (h : n < 100) : (Lib.decDigits n).length ≤ 2 := by
  by_cases h1 : n < 10
  · rw [Lib.decDigits_one h1]; simp
  · rw [Lib.decDigits_two h1 h]; simp
theorem tagS_size (l : List UInt8) : (tagS l).size = 32 := by unfold tagS; simp [ByteArray.size_mk', hexs_len, dig_len]
theorem str_cell {w : World} {A : Option Addr} {n c k : Nat} {ls : List ByteArray} (h : Src w (.slice A n c) (ls.map Value.string)) (hk : k < ls.length) : ∃ b off s, A = some ⟨b, off, none⟩ ∧ w.cell? ⟨b, off + k, none⟩ = some (.string s) ∧ ls.drop k = s :: ls.drop (k + 1) := by
  obtain ⟨s, hs, hd⟩ := next_elem ls k hk
  obtain ⟨b, off, hA, hc⟩ := h.rd.1 (by intro e; simp at e; simp [e] at hk)
  exact ⟨b, off, s, hA, hc k (.string s) (by simp [hs]), hd⟩
theorem src_formV {w : World} {b : Value} {ys : List Value} (hb : Src w b ys) : ∃ A c, b = .slice A ys.length c := by
  rcases hb with ⟨A, c, rfl, _, h⟩ | ⟨b, off, c, hu, _, _⟩
  · rw [h]; exact ⟨A, c, rfl⟩
  · exact ⟨_, c, hu⟩
set_option maxRecDepth 10000 in
set_option maxHeartbeats 1000000 in
theorem pTags_any (b : Value) (ls : List ByteArray) (w : World) (hb : Src w b (ls.map Value.string)) (hs : ∀ s ∈ ls, s.size ≤ 1000000) :
    Calls Tryd.prog 12 #[b] w fun e w' => e = .returned (.tuple #[.string (tagsV ls).1, .int .i64 (tagsV ls).2]) ∧ Below w.heap.size w w' := by
  obtain ⟨i0, hi, hz0, hz1, hz2⟩ := info_parts infoU8
  obtain ⟨A0, c0, rfl⟩ := src_formV hb
  rw [List.length_map] at hb ⊢
  by_cases hlong : 32 < ls.length
  · have HV := Lib.hid (show tagsV ls = (⟨#[]⟩, 3) by unfold tagsV; rw [if_pos hlong])
    have hl' : 32 < (ls.length : Int) := by omega
    go_enter Tryd.func12, Tryd.ntmps12
    go_wp2
    go_ret2
    exact ⟨by rw [HV.out]; rfl, Below.refl _ _⟩
  · have HV := Lib.hid (show tagsV ls = match tagsA ls [] with | some all => (tagS all ++ ⟨#[45]⟩ ++ decS ls.length, 0) | none => (⟨#[]⟩, 4) by unfold tagsV; rw [if_neg hlong])
    have hl' : ¬ 32 < (ls.length : Int) := by omega
    have HB := Lib.hid hb
    have HS := Lib.hid hs
    clear hb hs
    go_enter Tryd.func12, Tryd.ntmps12
    go_wp2_with fail
    go_loopw [4, 14] (fun v i wr => ∃ (k : Nat) (acc : List UInt8), k ≤ ls.length ∧ i = .int .i64 k ∧ acc.length ≤ 16 * k ∧ OwnB wr w.heap.size 5 v acc ∧ Below w.heap.size w wr ∧ Hid (tagsA (ls.drop k) acc = tagsA ls [])) (fun _ i _ => ls.length - (intOf i).toNat)
    case atStart => exact ⟨0, [], Nat.zero_le _, rfl, by simp, ownB_nil _ _ _, Below.refl _ _, Lib.hid (by simp)⟩
    case round =>
      obtain ⟨k, acc, hk, rfl, hacc, hown, hb, H⟩ := hrel
      obtain ⟨A4, c4, hform, -, -⟩ := hown.form
      subst hform
      by_cases hlt : k < ls.length
      · obtain ⟨b, off, s, rfl, hc, hd⟩ := str_cell (HB.out.block hb) hlt
        have hsz : s.size ≤ 1000000 := HS.out s (by have : s ∈ ls.drop k := by rw [hd]; simp
                                                    exact List.mem_of_mem_drop this)
        have hstep := H.out
        rw [hd] at hstep
        have HD := Lib.hid hstep
        clear hd hstep H
        go_wp2_with fail
        refine (pbytes_any s _ hsz).mono ?_
        rintro e w2 ⟨h1, hb2⟩
        have hb3 := bstep hb hb2 (Nat.le_refl _)
        rcases h1 with ⟨hu, rfl⟩ | ⟨m, g, hu, rfl, hg, hl⟩
        · have HN := Lib.hid (show tagsA ls [] = none by rw [← HD.out]; simp [tagsA, hu])
          clear hu
          go_wp2
          go_ret2
          exact ⟨by rw [HV.out, HN.out]; rfl, hb3⟩
        · by_cases h16 : m.length = 16
          · have HN := Lib.hid (show tagsA (ls.drop (k + 1)) (acc ++ m) = tagsA ls [] by rw [← HD.out]; simp [tagsA, hu, h16])
            have hsrc : Src w2 (.slice (some ⟨g, 0, none⟩) 16 16) (Lib.byteCells m) := .inr ⟨g, 0, 16, by rw [bc_len, h16], by rw [bc_len, h16]; exact Nat.le_refl _, fun j x hj => by
              rw [Nat.zero_add, cell_of_row _ _ j _ _ (0, 0) hl, List.getElem?_toArray]
              exact hj⟩
            have hown2 := hown.below hb2
            have hm16 : m.length ≤ 16 := by omega
            have hml : (acc ++ m).length ≤ 16 * (k + 1) := by rw [List.length_append]; omega
            rw [h16]
            clear hu h16 hown
            go_wp2_with (at_builtin; (refine wpList_appB rfl _ _ 26 26 rfl 5 i0 Tryd.underlying26 hi hz0 hz1 hz2 w.heap.size _ _ rfl hown2 _ m rfl (srcG_of Tryd.underlying26 hsrc) (by omega) hb3.size ?_; intro v1 w1 hownN hg1; (replace hb3 := hb3.grown hg1 hb3.size (fun k hk => (hown2.lt k hk).1)); (replace hown2 := hownN); clear hownN hg1))
            go_roundw
            case rel => exact ⟨k + 1, _, by omega, by go_num, hml, hown2, hb3, HN⟩
            case measure => simp [intOf]; omega
          · have HN := Lib.hid (show tagsA ls [] = none by rw [← HD.out]; simp [tagsA, hu, h16])
            have h2 : ((m.length : Int) == 16) = false := by simp; omega
            have h3 : ((m.length : Int) != 16) = true := by simp; omega
            clear hu
            go_wp2
            go_ret2
            exact ⟨by rw [HV.out, HN.out]; rfl, hb3⟩
      · obtain rfl : k = ls.length := by omega
        have hfin := H.out
        rw [List.drop_of_length_le (Nat.le_refl _)] at hfin
        have HF := Lib.hid (show tagsA ls [] = some acc from hfin.symm)
        have hdl := dec_len ls.length (by omega)
        have hts : (tagS acc).size ≤ 32 := by rw [tagS_size]; omega
        have ht := fun b W h => pTag_any b acc W (by omega) h
        have hit := Tryd.strconv_Itoa_small ls.length (by omega)
        clear hfin H
        go_wp2_with fail
        refine (ht _ _ hown.src).mono ?_
        rintro e w2 ⟨rfl, hb2⟩
        have hb3 := bstep hb hb2 (Nat.le_refl _)
        go_wp2_with fail
        refine (hit _).mono ?_
        rintro e w3 ⟨rfl, rfl⟩
        go_wp2
        go_ret2
        exact ⟨by rw [HV.out, HF.out]; rfl, hb3⟩
end Go.Proofs.YtdbdgpaafjdidaaDoor
