/- The walks of the statements about paths of names. -/
import Derived.Test.YtjmhofkdebdobaaProg
import Derived.Test.YtjmhofkdebdobaaQ16
import Derived.Test.YtjmhofkdebdobaaL16
namespace Go.Proofs.Ytjmhofkdebdobaa
open Go.RowKit
set_option linter.unusedVariables false
set_option linter.unusedSimpArgs false
set_option maxHeartbeats 400000 in
theorem nameReads_walk (p : ByteArray) (w : World) : Calls Try.prog 4 #[.string p] w fun e w' => e = .returned (.bool true) ∧ Below w.heap.size w w' := by
  by_cases hp : p.size ≤ 1000
  · have hB := Below.refl w.heap.size w
    cases ho : ofR p.data.toList with
    | none =>
      have HO := Lib.hid ho
      clear ho
      go_enter Try.func4, Try.ntmps4
      go_wp2_with fail
      refine (Of_any _ _ hp).mono ?_
      rintro e w1 ⟨h1, -, hq⟩
      obtain rfl := h1 HO.out
      replace hB := bstep hB hq (Nat.le_refl _)
      clear hq h1
      go_wp2_with fail
      refine (rOf_any _ _ hp).mono ?_
      rintro e w2 ⟨h1, -, hq⟩
      obtain rfl := h1 HO.out
      replace hB := bstep hB hq (Nat.le_refl _)
      clear hq h1
      go_wp2_with fail
      refine (awake16_any _).mono ?_
      rintro e w101 ⟨rfl, hq⟩
      replace hB := bstep hB hq (Nat.le_refl _)
      clear hq
      go_wp2
      go_ret
      exact ⟨rfl, hB⟩
    | some x =>
      obtain ⟨b, k⟩ := x
      have HO := Lib.hid ho
      clear ho
      go_enter Try.func4, Try.ntmps4
      go_wp2_with fail
      refine (Of_any _ _ hp).mono ?_
      rintro e w1 ⟨-, h1, hq⟩
      obtain rfl := h1 _ _ HO.out
      replace hB := bstep hB hq (Nat.le_refl _)
      clear hq h1
      go_wp2_with fail
      refine (rOf_any _ _ hp).mono ?_
      rintro e w2 ⟨-, h1, hq⟩
      obtain rfl := h1 _ _ HO.out
      replace hB := bstep hB hq (Nat.le_refl _)
      clear hq h1
      go_wp2_with fail
      refine (awake16_any _).mono ?_
      rintro e w102 ⟨rfl, hq⟩
      replace hB := bstep hB hq (Nat.le_refl _)
      clear hq
      go_wp2
      go_ret
      exact ⟨rfl, hB⟩
  · go_enter Try.func4, Try.ntmps4
    go_wp2
    all_goals (go_ret; exact ⟨rfl, Below.refl _ _⟩)
theorem Of_no (s : ByteArray) (w : World) (hs : s.size ≤ 1000) (h : ofR s.data.toList = none) :
    Calls Try.prog 14 #[.string s] w fun e w' => e = .returned (.tuple #[.string ⟨#[]⟩, .string ⟨#[]⟩, .int .i64 4]) ∧ Below w.heap.size w w' :=
  (Of_any s w hs).mono fun e w' hh => ⟨hh.1 h, hh.2.2⟩
theorem Of_yes (s : ByteArray) (b k : List UInt8) (w : World) (hs : s.size ≤ 1000) (h : ofR s.data.toList = some (b, k)) :
    Calls Try.prog 14 #[.string s] w fun e w' => e = .returned (.tuple #[.string ⟨b.toArray⟩, .string ⟨k.toArray⟩, .int .i64 0]) ∧ Below w.heap.size w w' :=
  (Of_any s w hs).mono fun e w' hh => ⟨hh.2.1 b k h, hh.2.2⟩
theorem refused16_any (s : ByteArray) (w : World) (hs : s.size ≤ 1000) (h : ofR s.data.toList = none) :
    Calls Try.prog 16 #[.string s] w fun e w' => e = .returned (.bool true) ∧ Below w.heap.size w w' := by
  have hB := Below.refl w.heap.size w
  have HO := Lib.hid h
  clear h
  go_enter Try.func16, Try.ntmps16
  go_wp2_with fail
  refine (Of_no _ _ hs HO.out).mono ?_
  rintro e w103 ⟨rfl, hq⟩
  replace hB := bstep hB hq (Nat.le_refl _)
  clear hq
  go_wp2
  go_ret
  exact ⟨rfl, hB⟩
theorem path_lit (b k : ByteArray) (l : List UInt8) (n : Int) (w : World) (h1 : b.size ≤ 1000) (h2 : k.size ≤ 1000) (hl : pathR b k = l) (hn : pathE b k = n) : Calls Try.prog 7 #[.string b, .string k] w fun e w' => e = .returned (.tuple #[.string ⟨l.toArray⟩, .int .i64 n]) ∧ Below w.heap.size w w' := by
  subst hl hn
  exact Path_any b k w h1 h2
theorem bucket_lit (b : ByteArray) (x : Bool) (w : World) (h : bucketB b = x) : Calls Try.prog 9 #[.string b] w fun e w' => e = .returned (.bool x) ∧ Below w.heap.size w w' := by
  subst h
  exact bucket_any b w
theorem key_lit (b : ByteArray) (x : Bool) (w : World) (hs : b.size ≤ 1000000) (h : keyB b = x) : Calls Try.prog 11 #[.string b] w fun e w' => e = .returned (.bool x) ∧ Below w.heap.size w w' := by
  subst h
  exact key_any b w hs
set_option maxHeartbeats 1000000 in
theorem nameKnown_walk (w : World) : Calls Try.prog 5 #[] w fun e w' => e = .returned (.bool true) ∧ Below w.heap.size w w' := by
  have hB := Below.refl w.heap.size w
  go_enter Try.func5, Try.ntmps5
  go_wp2_with fail
  refine (Of_yes (⟨#[97, 98, 99, 47, 97, 37, 50, 102, 98]⟩ : ByteArray) ([97, 98, 99] : List UInt8) ([97, 47, 98] : List UInt8) _ (by decide) (by decide)).mono ?_
  rintro e w104 ⟨rfl, hq⟩
  replace hB := bstep hB hq (Nat.le_refl _)
  clear hq
  go_wp2_with fail
  refine (path_lit (⟨#[97, 98]⟩ : ByteArray) (⟨#[97]⟩ : ByteArray) [] 13 _ (by decide) (by decide) (by decide) (by decide)).mono ?_
  rintro e w105 ⟨rfl, hq⟩
  replace hB := bstep hB hq (Nat.le_refl _)
  clear hq
  go_wp2_with fail
  refine (path_lit (⟨#[97, 98, 99]⟩ : ByteArray) (⟨#[]⟩ : ByteArray) [] 4 _ (by decide) (by decide) (by decide) (by decide)).mono ?_
  rintro e w106 ⟨rfl, hq⟩
  replace hB := bstep hB hq (Nat.le_refl _)
  clear hq
  go_wp2_with fail
  refine (awake16_any _).mono ?_
  rintro e w107 ⟨rfl, hq⟩
  replace hB := bstep hB hq (Nat.le_refl _)
  clear hq
  go_wp2_with fail
  refine (bucket_lit (⟨#[97, 98]⟩ : ByteArray) false _ (by decide)).mono ?_
  rintro e w108 ⟨rfl, hq⟩
  replace hB := bstep hB hq (Nat.le_refl _)
  clear hq
  go_wp2_with fail
  refine (bucket_lit (⟨#[45, 97, 98]⟩ : ByteArray) false _ (by decide)).mono ?_
  rintro e w109 ⟨rfl, hq⟩
  replace hB := bstep hB hq (Nat.le_refl _)
  clear hq
  go_wp2_with fail
  refine (bucket_lit (⟨#[65, 98, 99]⟩ : ByteArray) false _ (by decide)).mono ?_
  rintro e w110 ⟨rfl, hq⟩
  replace hB := bstep hB hq (Nat.le_refl _)
  clear hq
  go_wp2_with fail
  refine (key_lit (⟨#[97, 47, 98, 32, 99]⟩ : ByteArray) true _ (by decide) (by decide)).mono ?_
  rintro e w111 ⟨rfl, hq⟩
  replace hB := bstep hB hq (Nat.le_refl _)
  clear hq
  go_wp2_with fail
  refine (key_lit (⟨#[]⟩ : ByteArray) false _ (by decide) (by decide)).mono ?_
  rintro e w112 ⟨rfl, hq⟩
  replace hB := bstep hB hq (Nat.le_refl _)
  clear hq
  go_wp2_with fail
  refine (key_lit (⟨#[9]⟩ : ByteArray) false _ (by decide) (by decide)).mono ?_
  rintro e w113 ⟨rfl, hq⟩
  replace hB := bstep hB hq (Nat.le_refl _)
  clear hq
  go_wp2_with fail
  refine (refused16_any (⟨#[97, 98, 99, 47, 97, 37, 50, 70, 98]⟩ : ByteArray) _ (by decide) (by decide)).mono ?_
  rintro e w114 ⟨rfl, hq⟩
  replace hB := bstep hB hq (Nat.le_refl _)
  clear hq
  go_wp2_with fail
  refine (refused16_any (⟨#[97, 98, 99, 47, 37, 54, 49]⟩ : ByteArray) _ (by decide) (by decide)).mono ?_
  rintro e w115 ⟨rfl, hq⟩
  replace hB := bstep hB hq (Nat.le_refl _)
  clear hq
  go_wp2_with fail
  refine (refused16_any (⟨#[97, 98, 99, 47]⟩ : ByteArray) _ (by decide) (by decide)).mono ?_
  rintro e w116 ⟨rfl, hq⟩
  replace hB := bstep hB hq (Nat.le_refl _)
  clear hq
  go_wp2_with fail
  refine (refused16_any (⟨#[97, 98, 47, 97]⟩ : ByteArray) _ (by decide) (by decide)).mono ?_
  rintro e w117 ⟨rfl, hq⟩
  replace hB := bstep hB hq (Nat.le_refl _)
  clear hq
  go_wp2
  go_ret
  exact ⟨rfl, hB⟩
theorem hexN_hexD (n : Nat) (h : n < 16) : hexN (hexD n).toNat = n := by
  have hh : ∀ i : Fin 16, hexN (hexD i.1).toNat = i.1 := by decide
  exact hh ⟨n, h⟩
theorem hexD_ne (n : Nat) (h : n < 16) : hexD n ≠ 47 := by
  have hh : ∀ i : Fin 16, hexD i.1 ≠ 47 := by decide
  exact hh ⟨n, h⟩
theorem hexByte_hexD (c : UInt8) : hexByte (hexD (c.toNat / 16)) (hexD (c.toNat % 16)) = c := by
  have h := c.toNat_lt
  unfold hexByte
  rw [hexN_hexD _ (by omega), hexN_hexD _ (by omega)]
  rw [show (16 * ((c.toNat / 16 : Nat) : Int) + ((c.toNat % 16 : Nat) : Int)).toNat = c.toNat by omega]
  simp
theorem plainN_ne {c : UInt8} (h : plainN c.toNat = true) : c ≠ 37 ∧ c ≠ 47 := by
  refine ⟨?_, ?_⟩ <;> rintro rfl <;> exact absurd h (by decide)
theorem decGo_pathGo : ∀ l : List UInt8, decGo (pathGo l) = some l
  | [] => by rw [pathGo, decGo.eq_def]
  | c :: r => by
    have h := c.toNat_lt
    simp only [pathGo]
    split
    · rename_i hp
      rw [List.singleton_append, decGo_plain c _ (plainN_ne hp).1, decGo_pathGo r]
      rfl
    · rw [show [37, hexD (c.toNat / 16), hexD (c.toNat % 16)] ++ pathGo r = 37 :: hexD (c.toNat / 16) :: hexD (c.toNat % 16) :: pathGo r from rfl, decGo_pct, decGo_pathGo r, hexN_hexD _ (by omega), hexN_hexD _ (by omega), if_neg (by omega), if_neg (by omega), hexByte_hexD]
      rfl
theorem pathGo_slash : ∀ l : List UInt8, (pathGo l).count 47 = 0
  | [] => rfl
  | c :: r => by
    have h := c.toNat_lt
    simp only [pathGo, List.count_append, pathGo_slash r]
    split
    · rename_i hp
      simp [List.count_cons, (plainN_ne hp).2]
    · simp [List.count_cons, hexD_ne (c.toNat / 16) (by omega), hexD_ne (c.toNat % 16) (by omega)]
theorem bktGo_slash : ∀ (l : List UInt8) (d e : Bool), bktGo l d e = true → 47 ∉ l
  | [], _, _, _ => by simp
  | c :: r, d, e, h => by
    have hc : c ≠ 47 := by
      rintro rfl
      simp [bktGo, show small 47 = false from rfl] at h
    have hr : 47 ∉ r := by
      simp only [bktGo] at h
      repeat' split at h
      all_goals first | exact bktGo_slash r _ _ h | cases h
    simp [Ne.symm hc, hr]
theorem bucketB_slash {b : ByteArray} (h : bucketB b = true) : 47 ∉ b.data.toList ∧ b.size ≤ 32 := by
  unfold bucketB at h
  split at h
  · cases h
  · exact ⟨bktGo_slash _ _ _ h, by omega⟩
theorem cutAt_app (c : UInt8) : ∀ (a b : List UInt8), c ∉ a → cutAt c (a ++ c :: b) = some (a, b)
  | [], b, _ => by simp [cutAt]
  | x :: r, b, h => by
    simp only [List.mem_cons, not_or] at h
    simp [cutAt, Ne.symm h.1, cutAt_app c r b h.2]
theorem name_back {b k : ByteArray} (h : pathE b k = 0) : ofR (pathR b k) = some (b.data.toList, k.data.toList) ∧ (pathR b k).length ≤ 393 ∧ (pathR b k).count 47 = 1 := by
  obtain ⟨hb, hk⟩ := (pathE_ok b k).1 h
  have hr : pathR b k = b.data.toList ++ 47 :: pathGo k.data.toList := by simp [pathR, hb, hk]
  obtain ⟨hs, h32⟩ := bucketB_slash hb
  have hkl : k.size ≤ 120 := by
    simp only [keyB, Bool.and_eq_true, decide_eq_true_eq] at hk
    exact hk.2.2
  rw [hr]
  refine ⟨?_, ?_, ?_⟩
  · rw [ofR_cut (cutAt_app 47 _ _ hs), decGo_pathGo]
    simp only
    rw [← bs_mk (a := b) rfl, ← bs_mk (a := k) rfl]
    simp [hb, hk]
  · have := pathGo_len k.data.toList
    rw [bs_len] at h32 hkl
    simp only [List.length_append, List.length_cons]
    omega
  · rw [List.count_append, List.count_cons, pathGo_slash, List.count_eq_zero.2 hs]
    simp
theorem ofR_len {l b k : List UInt8} (h : ofR l = some (b, k)) : b.length ≤ l.length ∧ k.length ≤ l.length := by
  unfold ofR at h
  split at h
  · cases h
  · rename_i b0 rest hc
    have h1 := (cutAt_some 47 _ _ _ hc).2
    have h1' := congrArg List.length h1
    simp at h1'
    split at h
    · cases h
    · rename_i key hd
      have h2 := decGo_len _ _ key (Nat.le_refl _) hd
      split at h
      · split at h
        · simp only [Option.some.injEq, Prod.mk.injEq] at h
          obtain ⟨rfl, rfl⟩ := h
          exact ⟨by omega, by omega⟩
        · cases h
      · cases h
theorem of_back {p : ByteArray} {b k : List UInt8} (h : ofR p.data.toList = some (b, k)) : pathE ⟨b.toArray⟩ ⟨k.toArray⟩ = 0 ∧ pathR ⟨b.toArray⟩ ⟨k.toArray⟩ = p.data.toList := by
  unfold ofR at h
  split at h
  · cases h
  · split at h
    · cases h
    · split at h
      · rename_i h1
        split at h
        · rename_i h2
          simp only [Option.some.injEq, Prod.mk.injEq] at h
          obtain ⟨rfl, rfl⟩ := h
          exact ⟨h1, h2⟩
        · cases h
      · cases h
theorem Of_noP (s : ByteArray) (w : World) (hs : s.size ≤ 1000) (h : ofR s.data.toList = none) :
    Calls Try.prog 14 #[.string s] w fun e w' => e = .returned (.tuple #[.string ⟨#[]⟩, .string ⟨#[]⟩, .int .i64 4]) ∧ Below w.heap.size w w' := Of_no s w hs h
theorem Of_yesP (b k : ByteArray) (w : World) (h : pathE b k = 0) :
    Calls Try.prog 14 #[.string ⟨(pathR b k).toArray⟩] w fun e w' => e = .returned (.tuple #[.string b, .string k, .int .i64 0]) ∧ Below w.heap.size w w' := by
  obtain ⟨h1, h2, h3⟩ := name_back h
  have hh := Of_yes ⟨(pathR b k).toArray⟩ _ _ w (by rw [bs_len]; simp; omega) (by simpa using h1)
  rwa [← bs_mk (a := b) rfl, ← bs_mk (a := k) rfl] at hh
theorem count_slash (b k : ByteArray) (w : World) (h : pathE b k = 0) :
    Calls Try.prog 17 #[.string ⟨(pathR b k).toArray⟩, .string (⟨#[47]⟩ : ByteArray)] w fun e w' => e = .returned (.int .i64 1) ∧ w' = w := by
  have hh := Try.strings_Count_one ⟨(pathR b k).toArray⟩ 47 w
  rw [show (⟨(pathR b k).toArray⟩ : ByteArray).data.toList = pathR b k by simp, Lib.countByte, (name_back h).2.2] at hh
  exact hh
theorem Path_okP (b k : ByteArray) (w : World) (h1 : b.size ≤ 1000) (h2 : k.size ≤ 1000) (h : pathE b k = 0) : Calls Try.prog 7 #[.string b, .string k] w fun e w' => e = .returned (.tuple #[.string ⟨(pathR b k).toArray⟩, .int .i64 0]) ∧ Below w.heap.size w w' := path_lit b k _ 0 w h1 h2 rfl h
theorem Path_backP (p : ByteArray) (b k : List UInt8) (w : World) (hp : p.size ≤ 1000) (h : ofR p.data.toList = some (b, k)) : Calls Try.prog 7 #[.string ⟨b.toArray⟩, .string ⟨k.toArray⟩] w fun e w' => e = .returned (.tuple #[.string p, .int .i64 0]) ∧ Below w.heap.size w w' := by
  obtain ⟨h1, h2⟩ := of_back h
  have hh := (ofR_len h)
  have h3 := path_lit ⟨b.toArray⟩ ⟨k.toArray⟩ _ 0 w (by rw [bs_len]; rw [bs_len] at hp; simp; omega) (by rw [bs_len]; rw [bs_len] at hp; simp; omega) h2 h1
  rwa [← bs_mk (a := p) rfl] at h3
set_option maxHeartbeats 1000000 in
set_option maxRecDepth 100000 in
theorem nameBack_walk (b k p : ByteArray) (w : World) : Calls Try.prog 6 #[.string b, .string k, .string p] w fun e w' => e = .returned (.bool true) ∧ Below w.heap.size w w' := by
  have hB := Below.refl w.heap.size w
  by_cases h1 : b.size ≤ 1000
  · by_cases h2 : k.size ≤ 1000
    · by_cases h3 : p.size ≤ 1000
      · by_cases he : pathE b k = 0
        · have hl : ((pathR b k).length : Int) ≤ 393 := by have := (name_back he).2.1; omega
          have HE := Lib.hid he
          clear he
          go_enter Try.func6, Try.ntmps6
          go_wp2_with fail
          refine (nameKnown_walk _).mono ?_
          rintro e w118 ⟨rfl, hq⟩
          replace hB := bstep hB hq (Nat.le_refl _)
          clear hq
          go_wp2_with fail
          refine (Path_okP _ _ _ h1 h2 HE.out).mono ?_
          rintro e w119 ⟨rfl, hq⟩
          replace hB := bstep hB hq (Nat.le_refl _)
          clear hq
          go_wp2_with fail
          refine (Of_yesP _ _ _ HE.out).mono ?_
          rintro e w120 ⟨rfl, hq⟩
          replace hB := bstep hB hq (Nat.le_refl _)
          clear hq
          go_wp2_with fail
          refine (count_slash _ _ _ HE.out).mono ?_
          rintro e w121 ⟨rfl, rfl⟩
          cases ho : ofR p.data.toList with
          | none =>
            go_wp2_with fail
            refine (Of_noP _ _ h3 ho).mono ?_
            rintro e w122 ⟨rfl, hq⟩
            replace hB := bstep hB hq (Nat.le_refl _)
            clear hq
            clear ho
            go_wp2
            go_ret
            exact ⟨rfl, hB⟩
          | some x =>
            obtain ⟨b', k'⟩ := x
            have HO := Lib.hid ho
            clear ho
            go_wp2_with fail
            refine (Of_yes _ _ _ _ h3 HO.out).mono ?_
            rintro e w123 ⟨rfl, hq⟩
            replace hB := bstep hB hq (Nat.le_refl _)
            clear hq
            go_wp2_with fail
            refine (Path_backP _ _ _ _ h3 HO.out).mono ?_
            rintro e w124 ⟨rfl, hq⟩
            replace hB := bstep hB hq (Nat.le_refl _)
            clear hq
            go_wp2
            go_ret
            exact ⟨rfl, hB⟩
        · have hen : (pathE b k == 0) = false := by simpa using he
          have g1 : (b.size : Int) ≤ 1000 := by omega
          have g2 : (k.size : Int) ≤ 1000 := by omega
          have g3 : (p.size : Int) ≤ 1000 := by omega
          clear he
          go_enter Try.func6, Try.ntmps6
          go_wp2_with fail
          refine (nameKnown_walk _).mono ?_
          rintro e w125 ⟨rfl, hq⟩
          replace hB := bstep hB hq (Nat.le_refl _)
          clear hq
          go_wp2_with fail
          all_goals try (exfalso; omega)
          refine (Path_any _ _ _ h1 h2).mono ?_
          rintro e w126 ⟨rfl, hq⟩
          replace hB := bstep hB hq (Nat.le_refl _)
          clear hq
          cases ho : ofR p.data.toList with
          | none =>
            go_wp2_with fail
            refine (Of_noP _ _ h3 ho).mono ?_
            rintro e w127 ⟨rfl, hq⟩
            replace hB := bstep hB hq (Nat.le_refl _)
            clear hq
            clear ho
            go_wp2
            go_ret
            exact ⟨rfl, hB⟩
          | some x =>
            obtain ⟨b', k'⟩ := x
            have HO := Lib.hid ho
            clear ho
            go_wp2_with fail
            refine (Of_yes _ _ _ _ h3 HO.out).mono ?_
            rintro e w128 ⟨rfl, hq⟩
            replace hB := bstep hB hq (Nat.le_refl _)
            clear hq
            go_wp2_with fail
            refine (Path_backP _ _ _ _ h3 HO.out).mono ?_
            rintro e w129 ⟨rfl, hq⟩
            replace hB := bstep hB hq (Nat.le_refl _)
            clear hq
            go_wp2
            go_ret
            exact ⟨rfl, hB⟩
      · go_enter Try.func6, Try.ntmps6
        go_wp2_with fail
        refine (nameKnown_walk _).mono ?_
        rintro e w130 ⟨rfl, hq⟩
        replace hB := bstep hB hq (Nat.le_refl _)
        clear hq
        go_wp2
        all_goals (go_ret; exact ⟨rfl, hB⟩)
    · go_enter Try.func6, Try.ntmps6
      go_wp2_with fail
      refine (nameKnown_walk _).mono ?_
      rintro e w131 ⟨rfl, hq⟩
      replace hB := bstep hB hq (Nat.le_refl _)
      clear hq
      go_wp2
      all_goals (go_ret; exact ⟨rfl, hB⟩)
  · go_enter Try.func6, Try.ntmps6
    go_wp2_with fail
    refine (nameKnown_walk _).mono ?_
    rintro e w132 ⟨rfl, hq⟩
    replace hB := bstep hB hq (Nat.le_refl _)
    clear hq
    go_wp2
    all_goals (go_ret; exact ⟨rfl, hB⟩)
end Go.Proofs.Ytjmhofkdebdobaa
