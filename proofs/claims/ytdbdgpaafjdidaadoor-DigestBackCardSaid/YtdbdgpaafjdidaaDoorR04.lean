/- The walks of the reference's digits (stowageref04). -/
import Derived.Test.YtdbdgpaafjdidaaDoorProg
import Derived.Test.YtdbdgpaafjdidaaDoorBase
import Derived.Test.YtdbdgpaafjdidaaDoorInf
namespace Go.Proofs.YtdbdgpaafjdidaaDoor
open Go.RowKit
set_option linter.unusedVariables false
set_option linter.unusedSimpArgs false
def hexs : List UInt8 → List UInt8
  | [] => []
  | c :: r => hexD (c.toNat / 16) :: hexD (c.toNat % 16) :: hexs r
theorem hexs_append (a b : List UInt8) : hexs (a ++ b) = hexs a ++ hexs b := by
  induction a with
  | nil => rfl
  | cons c r ih => simp [hexs, ih]
set_option maxHeartbeats 400000 in
theorem digits_any (A : Option Addr) (c : Nat) (l : List UInt8) (w : World) (hl : l.length ≤ 1000000) (hr : Rd w A (Lib.byteCells l)) :
    Calls Tryd.prog 30 #[.slice A l.length c] w fun e w' => e = .returned (.string ⟨(hexs l).toArray⟩) ∧ Below w.heap.size w w' := by
  go_enter Tryd.func30, Tryd.ntmps30
  go_wp2
  go_loopw [3, 4] (fun t i wr => ∃ (k : Nat) (s : ByteArray), k ≤ l.length ∧ i = .int .i64 k ∧ t = .string s ∧ s.size ≤ 2 * k ∧ Below w.heap.size w wr ∧ Hid (s.data.toList ++ hexs (l.drop k) = hexs l)) (fun _ i _ => l.length - (intOf i).toNat)
  case atStart => exact ⟨0, _, Nat.zero_le _, rfl, rfl, by simp [ByteArray.size_mk'], Below.refl _ _, Lib.hid (by simp)⟩
  case round =>
    obtain ⟨k, s, hk, rfl, rfl, hs, hb, H⟩ := hrel
    by_cases hlt : k < l.length
    · obtain ⟨x, hx, hdr⟩ := next_elem l k hlt
      rw [hdr] at H
      obtain ⟨b, off, rfl, hcell⟩ := hr (by intro e; simp [Lib.byteCells] at e; simp [e] at hlt)
      have hc := below_cell hb (hcell k (.int .u8 x.toNat) (by simp [Lib.byteCells, hx]))
      have h256 : x.toNat < 256 := x.toNat_lt
      clear hdr hcell hr hx
      go_wp2
      have q1 : IntKind.u8.wrap (↑x.toNat / 16) = ↑x.toNat / 16 := IntWalk.u8_in _ (by omega)
      have q2 : IntKind.u8.wrap (↑x.toNat / 16 + 1) = ↑x.toNat / 16 + 1 := IntWalk.u8_in _ (by omega)
      have q3 : IntKind.u8.wrap (↑x.toNat % 16) = ↑x.toNat % 16 := IntWalk.u8_in _ (by omega)
      have q4 : IntKind.u8.wrap (↑x.toNat % 16 + 1) = ↑x.toNat % 16 + 1 := IntWalk.u8_in _ (by omega)
      have q5 := slice_hex (P := Tryd.prog) 9 Tryd.underlying9 .u8 .u8 (↑x.toNat / 16) (↑x.toNat / 16 + 1) (x.toNat / 16) (by omega) (by omega) (by omega)
      have q6 := slice_hex (P := Tryd.prog) 9 Tryd.underlying9 .u8 .u8 (↑x.toNat % 16) (↑x.toNat % 16 + 1) (x.toNat % 16) (by omega) (by omega) (by omega)
      have q7 := fun W => run_string_add_sum (P := Tryd.prog) W s ⟨#[hexD (x.toNat / 16)]⟩ (by simp [ByteArray.size_mk']; omega)
      have q8 := fun W => run_string_add_sum (P := Tryd.prog) W (s ++ ⟨#[hexD (x.toNat / 16)]⟩) ⟨#[hexD (x.toNat % 16)]⟩ (by simp [ByteArray.size_mk', ByteArray.size_append']; omega)
      go_quiet (fail)
      clear q1 q2 q3 q4 q5 q6 q7 q8
      go_wp2
      go_roundw
      case rel => exact ⟨k + 1, _, by omega, by go_num, rfl, by simp [ByteArray.size_mk', ByteArray.size_append']; omega, Keeps.below ((Keeps.ofBelow (fun _ => False) hb).drewN _) (Nat.le_refl _) (by simp), Lib.hid (by have h := H.out; simpa [hexs, bs_app] using h)⟩
      case measure => simp [intOf]; omega
    · rw [List.drop_of_length_le (by omega)] at H
      go_wp2
      go_ret
      refine ⟨ret_str ?_, hb⟩
      have h := H.out
      simp [hexs] at h
      exact bs_mk h
def undig : List UInt8 → Option (List UInt8)
  | [] => some []
  | [_] => none
  | a :: b :: r => if hexN a.toNat < 0 then none else if hexN b.toNat < 0 then none else (undig r).map (hexByte a b :: ·)
theorem undig_odd : ∀ (l : List UInt8), l.length % 2 = 1 → undig l = none
  | [], h => by simp at h
  | [_], _ => rfl
  | a :: b :: r, h => by
    have := undig_odd r (by simp at h; omega)
    simp [undig, this]
theorem undig_len : ∀ (l m : List UInt8), undig l = some m → l.length = 2 * m.length
  | [], m, h => by simp [undig] at h; simp [h]
  | [_], m, h => by simp [undig] at h
  | a :: b :: r, m, h => by
    simp only [undig] at h
    split at h
    · cases h
    split at h
    · cases h
    cases hh : undig r with
    | none => simp [hh] at h
    | some x =>
      simp [hh] at h
      have := undig_len r x hh
      simp [← h]
      omega
theorem rdigit_any (c : UInt8) (w : World) : Calls Tryd.prog 46 #[.int .u8 c.toNat] w fun e w' => e = .returned (.int .i64 (hexN c.toNat)) ∧ w' = w := by
  have h256 : c.toNat < 256 := c.toNat_lt
  go_enter Tryd.func46, Tryd.ntmps46
  go_wp2
  all_goals (go_ret; refine ⟨ret_int ?_, rfl⟩; unfold hexN; repeat' split; all_goals omega)
def UndR (s : ByteArray) (w : World) (v i : Value) (wr : World) : Prop :=
  ∃ (j : Nat) (acc : List UInt8), j ≤ s.size ∧ j % 2 = 0 ∧ i = .int .i64 j ∧ acc.length ≤ j ∧ wr.ownsRow w.heap.size 5 1 v acc.length (Lib.byteCells acc) ∧ Below w.heap.size w wr ∧
    (undig (s.data.toList.drop j)).map (acc ++ ·) = undig s.data.toList
set_option maxRecDepth 10000 in
set_option maxHeartbeats 1000000 in
theorem undigits_any (s : ByteArray) (w : World) (hs : s.size ≤ 1000000) :
    Calls Tryd.prog 25 #[.string s] w fun e w' => (undig s.data.toList = none → e = .returned (.tuple #[.slice none 0 0, .bool false])) ∧
      (∀ l, undig s.data.toList = some l → ∃ v, e = .returned (.tuple #[v, .bool true]) ∧ w'.ownsRow w.heap.size 5 1 v l.length (Lib.byteCells l)) ∧ Below w.heap.size w w' := by
  by_cases ho : s.size % 2 = 1
  · have hn := undig_odd s.data.toList (by simpa using ho)
    have HN := Lib.hid hn
    have ho' : (s.size : Int) % 2 = 1 := by omega
    clear hn ho
    go_enter Tryd.func25, Tryd.ntmps25
    go_wp2
    all_goals (go_ret2; exact ⟨fun _ => rfl, fun l h => by simp [HN.out] at h, Below.refl _ _⟩)
  · obtain ⟨m, hm⟩ : ∃ m, s.size = m + m := ⟨s.size / 2, by omega⟩
    have ho' : (s.size : Int) % 2 = 0 := by omega
    have hm1 : m + m ≤ s.size := by omega
    have hm2 : s.size ≤ m + m := by omega
    clear hm ho
    obtain ⟨i0, hi, hz0, hz1, hz2⟩ := info_parts infoU8
    go_enter Tryd.func25, Tryd.ntmps25
    go_wp2
    go_loopw [4, 5] (fun v i wr => UndR s w v i wr) (fun _ i _ => s.size - (intOf i).toNat)
    case atStart =>
      unfold UndR
      exact ⟨0, [], Nat.zero_le _, rfl, rfl, Nat.zero_le _, World.ownsRow_nil _ _ _ _, Below.refl _ _, by simp⟩
    case round =>
      obtain ⟨j, acc, hj, he, rfl, hac, hown, hb, h⟩ := hrel
      have HE := Lib.hid he
      have H := Lib.hid h
      clear h he
      by_cases hlt : j < s.size
      · have hj2 : j + 2 ≤ s.size := by have := HE.out; omega
        obtain ⟨a, ha, hda⟩ := next_at s j hlt
        obtain ⟨b, hb', hdb⟩ := next_at s (j + 1) (by omega)
        rw [hda, hdb] at H
        have hz := hb.size
        clear hda hdb
        have a1 := hexN_lo a.toNat
        have a2 := hexN_hi a.toNat
        have b1 := hexN_lo b.toNat
        have b2 := hexN_hi b.toNat
        by_cases hA : hexN a.toNat < 0
        · go_wp2
          go_quiet ((first | (go_at_call 46; exact Calls.quiet_of_same (rdigit_any _ _))))
          go_wp2
          go_ret2
          have h := H.out
          simp [undig, hA] at h
          exact ⟨fun _ => rfl, fun l hl => by rw [hl] at h; simp at h, below_drewN hb _⟩
        · by_cases hB : hexN b.toNat < 0
          · go_wp2
            go_quiet ((first | (go_at_call 46; exact Calls.quiet_of_same (rdigit_any _ _))))
            go_wp2
            go_ret2
            have h := H.out
            simp [undig, hA, hB] at h
            exact ⟨fun _ => rfl, fun l hl => by rw [hl] at h; simp at h, below_drewN hb _⟩
          · go_wp2
            go_quiet ((first | (go_at_call 46; exact Calls.quiet_of_same (rdigit_any _ _))))
            go_wp2_with (at_builtin; go_must (refine wpList_push rfl _ _ 26 rfl w.heap.size 5 i0 (.int .u8 0) 1 Tryd.underlying26 hi hz0 hz1 hz2 rfl _ _ _ rfl (World.ownsRow.alloc hown _) ⟨wr.heap.size, 0, none⟩ _ rfl (cell_new _ _ _) rfl (by omega) (by omega) (by simp; omega) ?_); intro v2 w2 hown2 hgrow hat)
            all_goals try (exfalso; omega)
            have hb2 := below_push hb (Nat.le_refl _) _ hgrow (fun k hk => (hown.lt k hk).1)
            have hown3 := ownsRow_snoc hown2 (hexByte a b) (hexByte_val a b (by omega) (by omega))
            clear hown hown2 hgrow hat
            go_wp2
            go_roundw
            case rel =>
              have HR : UndR s w v2 (.int .i64 ((j : Int) + 2)) w2 := by
                have h := H.out
                simp only [undig, if_neg (show ¬ hexN a.toNat < 0 by omega), if_neg (show ¬ hexN b.toNat < 0 by omega)] at h
                exact ⟨j + 2, acc ++ [hexByte a b], by omega, by have := HE.out; omega, by go_num, by simp; omega, hown3, hb2, by rw [← h]; cases undig (s.data.toList.drop (j + 1 + 1)) <;> simp⟩
              first | exact HR | ((repeat apply Exists.intro); refine ⟨HR, ?_⟩; first | rfl | (repeat' (first | apply And.intro | rfl)))
            case measure => simp [intOf]; omega
      · rw [List.drop_of_length_le (by simp; omega)] at H
        go_wp2
        go_ret2
        have h := H.out
        simp [undig] at h
        exact ⟨fun hn => by simp [hn] at h, fun l hl => by rw [hl] at h; cases h; exact ⟨_, rfl, hown⟩, hb⟩
end Go.Proofs.YtdbdgpaafjdidaaDoor
