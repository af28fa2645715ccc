/- The walks of the statements about paths of names. -/
import Derived.Test.YtjmhofkdebdobaaProg
import Derived.Test.YtjmhofkdebdobaaQ16
import Derived.Test.YtjmhofkdebdobaaL16
namespace Go.Proofs.Ytjmhofkdebdobaa
open Go.RowKit
set_option linter.unusedVariables false
set_option linter.unusedSimpArgs false
set_option maxHeartbeats 400000 in
theorem nameReads_walk (p : ByteArray) (w : World) : Calls Try.prog 4 #[.string p] w fun e w' => e = .returned (.bool true) ∧ Below w.heap.size w w' := by
  by_cases hp : p.size ≤ 1000
  · have hB := Below.refl w.heap.size w
    cases ho : ofR p.data.toList with
    | none =>
      have HO := Lib.hid ho
      clear ho
      go_enter Try.func4, Try.ntmps4
      go_wp2_with fail
      refine (Of_any _ _ hp).mono ?_
      rintro e w1 ⟨h1, -, hq⟩
      obtain rfl := h1 HO.out
      replace hB := bstep hB hq (Nat.le_refl _)
      clear hq h1
      go_wp2_with fail
      refine (rOf_any _ _ hp).mono ?_
      rintro e w2 ⟨h1, -, hq⟩
      obtain rfl := h1 HO.out
      replace hB := bstep hB hq (Nat.le_refl _)
      clear hq h1
      go_wp2_with fail
      refine (awake16_any _).mono ?_
      rintro e w101 ⟨rfl, hq⟩
      replace hB := bstep hB hq (Nat.le_refl _)
      clear hq
      go_wp2
      go_ret
      exact ⟨rfl, hB⟩
    | some x =>
      obtain ⟨b, k⟩ := x
      have HO := Lib.hid ho
      clear ho
      go_enter Try.func4, Try.ntmps4
      go_wp2_with fail
      refine (Of_any _ _ hp).mono ?_
      rintro e w1 ⟨-, h1, hq⟩
      obtain rfl := h1 _ _ HO.out
      replace hB := bstep hB hq (Nat.le_refl _)
      clear hq h1
      go_wp2_with fail
      refine (rOf_any _ _ hp).mono ?_
      rintro e w2 ⟨-, h1, hq⟩
      obtain rfl := h1 _ _ HO.out
      replace hB := bstep hB hq (Nat.le_refl _)
      clear hq h1
      go_wp2_with fail
      refine (awake16_any _).mono ?_
      rintro e w102 ⟨rfl, hq⟩
      replace hB := bstep hB hq (Nat.le_refl _)
      clear hq
      go_wp2
      go_ret
      exact ⟨rfl, hB⟩
  · go_enter Try.func4, Try.ntmps4
    go_wp2
    all_goals (go_ret; exact ⟨rfl, Below.refl _ _⟩)
theorem Of_no (s : ByteArray) (w : World) (hs : s.size ≤ 1000) (h : ofR s.data.toList = none) :
    Calls Try.prog 14 #[.string s] w fun e w' => e = .returned (.tuple #[.string ⟨#[]⟩, .string ⟨#[]⟩, .int .i64 4]) ∧ Below w.heap.size w w' :=
  (Of_any s w hs).mono fun e w' hh => ⟨hh.1 h, hh.2.2⟩
theorem Of_yes (s : ByteArray) (b k : List UInt8) (w : World) (hs : s.size ≤ 1000) (h : ofR s.data.toList = some (b, k)) :
    Calls Try.prog 14 #[.string s] w fun e w' => e = .returned (.tuple #[.string ⟨b.toArray⟩, .string ⟨k.toArray⟩, .int .i64 0]) ∧ Below w.heap.size w w' :=
  (Of_any s w hs).mono fun e w' hh => ⟨hh.2.1 b k h, hh.2.2⟩
theorem refused16_any (s : ByteArray) (w : World) (hs : s.size ≤ 1000) (h : ofR s.data.toList = none) :
    Calls Try.prog 16 #[.string s] w fun e w' => e = .returned (.bool true) ∧ Below w.heap.size w w' := by
  have hB := Below.refl w.heap.size w
  have HO := Lib.hid h
  clear h
  go_enter Try.func16, Try.ntmps16
  go_wp2_with fail
  refine (Of_no _ _ hs HO.out).mono ?_
  rintro e w103 ⟨rfl, hq⟩
  replace hB := bstep hB hq (Nat.le_refl _)
  clear hq
  go_wp2
  go_ret
  exact ⟨rfl, hB⟩
theorem path_lit (b k : ByteArray) (l : List UInt8) (n : Int) (w : World) (h1 : b.size ≤ 1000) (h2 : k.size ≤ 1000) (hl : pathR b k = l) (hn : pathE b k = n) : Calls Try.prog 7 #[.string b, .string k] w fun e w' => e = .returned (.tuple #[.string ⟨l.toArray⟩, .int .i64 n]) ∧ Below w.heap.size w w' := by
  subst hl hn
  exact Path_any b k w h1 h2
theorem bucket_lit (b : ByteArray) (x : Bool) (w : World) (h : bucketB b = x) : Calls Try.prog 9 #[.string b] w fun e w' => e = .returned (.bool x) ∧ Below w.heap.size w w' := by
  subst h
  exact bucket_any b w
theorem key_lit (b : ByteArray) (x : Bool) (w : World) (hs : b.size ≤ 1000000) (h : keyB b = x) : Calls Try.prog 11 #[.string b] w fun e w' => e = .returned (.bool x) ∧ Below w.heap.size w w' := by
  subst h
  exact key_any b w hs
set_option maxHeartbeats 1000000 in
theorem nameKnown_walk (w : World) : Calls Try.prog 5 #[] w fun e w' => e = .returned (.bool true) ∧ Below w.heap.size w w' := by
  have hB := Below.refl w.heap.size w
  go_enter Try.func5, Try.ntmps5
  go_wp2_with fail
  refine (Of_yes (⟨#[97, 98, 99, 47, 97, 37, 50, 102, 98]⟩ : ByteArray) ([97, 98, 99] : List UInt8) ([97, 47, 98] : List UInt8) _ (by decide) (by decide)).mono ?_
  rintro e w104 ⟨rfl, hq⟩
  replace hB := bstep hB hq (Nat.le_refl _)
  clear hq
  go_wp2_with fail
  refine (path_lit (⟨#[97, 98]⟩ : ByteArray) (⟨#[97]⟩ : ByteArray) [] 13 _ (by decide) (by decide) (by decide) (by decide)).mono ?_
  rintro e w105 ⟨rfl, hq⟩
  replace hB := bstep hB hq (Nat.le_refl _)
  clear hq
  go_wp2_with fail
  refine (path_lit (⟨#[97, 98, 99]⟩ : ByteArray) (⟨#[]⟩ : ByteArray) [] 4 _ (by decide) (by decide) (by decide) (by decide)).mono ?_
  rintro e w106 ⟨rfl, hq⟩
  replace hB := bstep hB hq (Nat.le_refl _)
  clear hq
  go_wp2_with fail
  refine (awake16_any _).mono ?_
  rintro e w107 ⟨rfl, hq⟩
  replace hB := bstep hB hq (Nat.le_refl _)
  clear hq
  go_wp2_with fail
  refine (bucket_lit (⟨#[97, 98]⟩ : ByteArray) false _ (by decide)).mono ?_
  rintro e w108 ⟨rfl, hq⟩
  replace hB := bstep hB hq (Nat.le_refl _)
  clear hq
  go_wp2_with fail
  refine (bucket_lit (⟨#[45, 97, 98]⟩ : ByteArray) false _ (by decide)).mono ?_
  rintro e w109 ⟨rfl, hq⟩
  replace hB := bstep hB hq (Nat.le_refl _)
  clear hq
  go_wp2_with fail
  refine (bucket_lit (⟨#[65, 98, 99]⟩ : ByteArray) false _ (by decide)).mono ?_
  rintro e w110 ⟨rfl, hq⟩
  replace hB := bstep hB hq (Nat.le_refl _)
  clear hq
  go_wp2_with fail
  refine (key_lit (⟨#[97, 47, 98, 32, 99]⟩ : ByteArray) true _ (by decide) (by decide)).mono ?_
  rintro e w111 ⟨rfl, hq⟩
  replace hB := bstep hB hq (Nat.le_refl _)
  clear hq
  go_wp2_with fail
  refine (key_lit (⟨#[]⟩ : ByteArray) false _ (by decide) (by decide)).mono ?_
  rintro e w112 ⟨rfl, hq⟩
  replace hB := bstep hB hq (Nat.le_refl _)
  clear hq
  go_wp2_with fail
  refine (key_lit (⟨#[9]⟩ : ByteArray) false _ (by decide) (by decide)).mono ?_
  rintro e w113 ⟨rfl, hq⟩
  replace hB := bstep hB hq (Nat.le_refl _)
  clear hq
  go_wp2_with fail
  refine (refused16_any (⟨#[97, 98, 99, 47, 97, 37, 50, 70, 98]⟩ : ByteArray) _ (by decide) (by decide)).mono ?_
  rintro e w114 ⟨rfl, hq⟩
  replace hB := bstep hB hq (Nat.le_refl _)
  clear hq
  go_wp2_with fail
  refine (refused16_any (⟨#[97, 98, 99, 47, 37, 54, 49]⟩ : ByteArray) _ (by decide) (by decide)).mono ?_
  rintro e w115 ⟨rfl, hq⟩
  replace hB := bstep hB hq (Nat.le_refl _)
  clear hq
  go_wp2_with fail
  refine (refused16_any (⟨#[97, 98, 99, 47]⟩ : ByteArray) _ (by decide) (by decide)).mono ?_
  rintro e w116 ⟨rfl, hq⟩
  replace hB := bstep hB hq (Nat.le_refl _)
  clear hq
  go_wp2_with fail
  refine (refused16_any (⟨#[97, 98, 47, 97]⟩ : ByteArray) _ (by decide) (by decide)).mono ?_
  rintro e w117 ⟨rfl, hq⟩
  replace hB := bstep hB hq (Nat.le_refl _)
  clear hq
  go_wp2
  go_ret
  exact ⟨rfl, hB⟩
end Go.Proofs.Ytjmhofkdebdobaa
