/- The walks of the functions that read a path: package name and its reference. -/
import Derived.Test.YtjmhofkdebdobaaProg
import Derived.Test.YtjmhofkdebdobaaR16
import Derived.Test.YtjmhofkdebdobaaCut
namespace Go.Proofs.Ytjmhofkdebdobaa
open Go.RowKit
set_option linter.unusedVariables false
set_option linter.unusedSimpArgs false
def DecR (s : ByteArray) (w : World) (v i : Value) (wr : World) : Prop :=
  ∃ (k : Nat) (t : ByteArray), k ≤ s.size ∧ i = .int .i64 k ∧ v = .string t ∧ t.size ≤ k ∧ Below w.heap.size w wr ∧ (decGo (s.data.toList.drop k)).map (t.data.toList ++ ·) = decGo s.data.toList
set_option maxHeartbeats 1000000 in
theorem decoded_any (s : ByteArray) (w : World) (hs : s.size ≤ 1000000) :
    Calls Try.prog 24 #[.string s] w fun e w' => (decGo s.data.toList = none → e = .returned (.tuple #[.string ⟨#[]⟩, .bool false])) ∧
      (∀ l, decGo s.data.toList = some l → e = .returned (.tuple #[.string ⟨l.toArray⟩, .bool true])) ∧ Below w.heap.size w w' := by
  go_enter Try.func24, Try.ntmps24
  go_wp2
  go_loopw [4, 5] (fun v i wr => DecR s w v i wr) (fun _ i _ => s.size - (intOf i).toNat)
  case atStart =>
    unfold DecR
    exact ⟨0, _, Nat.zero_le _, rfl, rfl, by simp [ByteArray.size_mk'], Below.refl _ _, by simp⟩
  case round =>
    obtain ⟨k, t, hk, rfl, rfl, ht, hb, h⟩ := hrel
    have H := Lib.hid h
    clear h
    by_cases hlt : k < s.size
    · obtain ⟨c, hc, hdr⟩ := next_at s k hlt
      rw [hdr] at H
      by_cases hp : c = 37
      · subst hp
        by_cases h3 : k + 3 ≤ s.size
        · obtain ⟨a, -, hda⟩ := next_at s (k + 1) (by omega)
          obtain ⟨b, -, hdb⟩ := next_at s (k + 1 + 1) (by omega)
          have sl := slice_two (P := Try.prog) 9 Try.underlying9 .i64 .i64 s ((k : Int) + 1) ((k : Int) + 3) (k + 1) (by omega) (by omega) (by omega) a b _ (by rw [hda, hdb])
          rw [hda, hdb, decGo_pct] at H
          clear hdr hda hdb
          have hz := hb.size
          go_wp2_with fail
          refine (undigits_any _ _ (by show 2 ≤ 1000000; omega)).mono ?_
          rintro e w2 ⟨hno, hyes, hb2⟩
          by_cases hA : hexN a.toNat < 0
          · obtain rfl := hno (by simp [undig, hA])
            go_wp2
            go_ret2
            have h := H.out
            simp [hA] at h
            exact ⟨fun _ => rfl, fun l hl => by rw [hl] at h; simp at h, bstep hb hb2 (Nat.le_refl _)⟩
          · by_cases hB : hexN b.toNat < 0
            · obtain rfl := hno (by simp [undig, hA, hB])
              go_wp2
              go_ret2
              have h := H.out
              simp [hA, hB] at h
              exact ⟨fun _ => rfl, fun l hl => by rw [hl] at h; simp at h, bstep hb hb2 (Nat.le_refl _)⟩
            · obtain ⟨v, rfl, hown⟩ := hyes [hexByte a b] (by simp [undig, hA, hB])
              have cb := conv_back (P := Try.prog) hown 34 9 Try.underlying34 Try.underlying5 Try.underlying9
              have hb3 := bstep hb hb2 (Nat.le_refl _)
              clear hno hyes hb2 hown
              go_wp2
              go_roundw
              case rel =>
                have HR : DecR s w (.string (t ++ ⟨#[hexByte a b]⟩)) (.int .i64 ((k : Int) + 3)) w2 := by
                  have h := H.out
                  rw [if_neg (by omega), if_neg (by omega)] at h
                  exact ⟨k + 3, _, by omega, by go_num, rfl, by simp [ByteArray.size_mk', ByteArray.size_append']; omega, hb3, by rw [← h]; cases decGo (s.data.toList.drop (k + 1 + 1 + 1)) <;> simp [bs_app]⟩
                first | exact HR | ((repeat apply Exists.intro); refine ⟨HR, ?_⟩; first | rfl | (repeat' (first | apply And.intro | rfl)))
              case measure => simp [intOf]; omega
        · have hn : decGo (37 :: s.data.toList.drop (k + 1)) = none := decGo_short _ (by simp; omega)
          rw [hn] at H
          clear hdr hn
          go_wp2
          go_ret2
          have h := H.out
          simp at h
          exact ⟨fun _ => rfl, fun l hl => by rw [hl] at h; simp at h, hb⟩
      · have sl := slice_one (P := Try.prog) 9 Try.underlying9 .i64 .i64 s k hlt c hc
        have hp' : ¬ (c.toNat : Int) = 37 := fun e => hp (by apply UInt8.toNat_inj.1; simpa using (by omega : c.toNat = 37))
        rw [decGo_plain c _ hp] at H
        clear hdr
        go_wp2
        go_roundw
        case rel =>
          have HR : DecR s w (.string (t ++ ⟨#[c]⟩)) (.int .i64 ((k : Int) + 1)) wr := by
            have h := H.out
            exact ⟨k + 1, _, by omega, by go_num, rfl, by simp [ByteArray.size_mk', ByteArray.size_append']; omega, hb, by rw [← h]; cases decGo (s.data.toList.drop (k + 1)) <;> simp [bs_app]⟩
          first | exact HR | ((repeat apply Exists.intro); refine ⟨HR, ?_⟩; first | rfl | (repeat' (first | apply And.intro | rfl)))
        case measure => simp [intOf]; omega
    · rw [List.drop_of_length_le (by simp; omega)] at H
      go_wp2
      go_ret2
      have h := H.out
      simp [decGo] at h
      exact ⟨fun hn => by simp [hn] at h, fun l hl => by rw [hl] at h; cases h; exact ret_sb (bs_mk rfl) rfl, hb⟩
theorem decGo_len : ∀ (n : Nat) (l m : List UInt8), l.length ≤ n → decGo l = some m → m.length ≤ l.length
  | 0, l, m, hn, h => by
    have : l = [] := List.eq_nil_of_length_eq_zero (by omega)
    subst this
    rw [decGo.eq_def] at h
    simp at h
    simp [h]
  | n + 1, [], m, hn, h => by
    rw [decGo.eq_def] at h
    simp at h
    simp [h]
  | n + 1, c :: r, m, hn, h => by
    by_cases hc : c = 37
    · subst hc
      match r, hn, h with
      | [], _, h => rw [decGo_short _ (by simp)] at h; cases h
      | [a], _, h => rw [decGo_short _ (by simp)] at h; cases h
      | a :: b :: r', hn, h =>
        rw [decGo_pct] at h
        split at h
        · cases h
        split at h
        · cases h
        cases hh : decGo r' with
        | none => simp [hh] at h
        | some x =>
          simp [hh] at h
          have := decGo_len n r' x (by simp at hn; omega) hh
          simp [← h]
          omega
    · rw [decGo_plain c r hc] at h
      cases hh : decGo r with
      | none => simp [hh] at h
      | some x =>
        simp [hh] at h
        have := decGo_len n r x (by simp at hn; omega) hh
        simp [← h]
        omega
def ofR (l : List UInt8) : Option (List UInt8 × List UInt8) :=
  match cutAt 47 l with
  | none => none
  | some (b, rest) => match decGo rest with
    | none => none
    | some key => if pathE ⟨b.toArray⟩ ⟨key.toArray⟩ = 0 then (if pathR ⟨b.toArray⟩ ⟨key.toArray⟩ = l then some (b, key) else none) else none
set_option maxHeartbeats 1000000 in
theorem rOf_any (s : ByteArray) (w : World) (hs : s.size ≤ 1000) :
    Calls Try.prog 15 #[.string s] w fun e w' => (ofR s.data.toList = none → e = .returned (.tuple #[.string ⟨#[]⟩, .string ⟨#[]⟩, .int .i64 4])) ∧
      (∀ b k, ofR s.data.toList = some (b, k) → e = .returned (.tuple #[.string ⟨b.toArray⟩, .string ⟨k.toArray⟩, .int .i64 0])) ∧ Below w.heap.size w w' := by
  go_enter Try.func15, Try.ntmps15
  go_wp2
  go_loopw [5] (fun i wr => ∃ (k : Nat), k ≤ s.size ∧ i = .int .i64 k ∧ Below w.heap.size w wr ∧ Hid (cutAt 47 s.data.toList = (cutAt 47 (s.data.toList.drop k)).map (fun p => (s.data.toList.take k ++ p.1, p.2)))) (fun i _ => s.size - (intOf i).toNat)
  case atStart => exact ⟨0, Nat.zero_le _, rfl, Below.refl _ _, Lib.hid (by cases h : cutAt 47 s.data.toList <;> simp [h])⟩
  case round =>
    obtain ⟨k, hk, rfl, hb, H⟩ := hrel
    by_cases hlt : k < s.size
    · obtain ⟨c, hc, hdr⟩ := next_at s k hlt
      rw [hdr] at H
      by_cases hp : c = 47
      · subst hp
        have sl1 := slice_from (P := Try.prog) 9 Try.underlying9 .i64 s ((k : Int) + 1) (k + 1) (by omega) (by omega)
        have sl2 := slice_to (P := Try.prog) 9 Try.underlying9 .i64 s (k : Int) k rfl (by omega)
        have hcut : cutAt 47 s.data.toList = some (s.data.toList.take k, s.data.toList.drop (k + 1)) := by
          have h := H.out
          simpa [cutAt] using h
        have HC := Lib.hid hcut
        clear hdr hcut H
        go_wp2_with fail
        refine (decoded_any _ _ (by rw [bs_len]; simp; omega)).mono ?_
        rintro e w2 ⟨hno, hyes, hb2⟩
        have hb3 := bstep hb hb2 (Nat.le_refl _)
        clear hb2
        cases hd : decGo (s.data.toList.drop (k + 1)) with
        | none =>
          obtain rfl := hno (by simpa using hd)
          have HD := Lib.hid hd
          clear hno hyes hd
          go_wp2
          go_ret3
          have hn : ofR s.data.toList = none := by simp [ofR, HC.out, HD.out]
          exact ⟨fun _ => rfl, fun b k h => (by rw [hn] at h; cases h), hb3⟩
        | some key =>
          obtain rfl := hyes key (by simpa using hd)
          have hkl := decGo_len _ _ key (Nat.le_refl _) hd
          have hkl2 : key.length ≤ 1000 := by simp at hkl; omega
          have HD := Lib.hid hd
          clear hno hyes hd hkl
          go_wp2_with fail
          refine (rPath_any _ _ _ (by rw [bs_len]; simp; omega) (by rw [bs_len]; simp; omega)).mono ?_
          rintro e w3 ⟨rfl, hb4⟩
          have hb5 := bstep hb3 hb4 (Nat.le_refl _)
          clear hb4
          have hof : ofR s.data.toList = if pathE ⟨(s.data.toList.take k).toArray⟩ ⟨key.toArray⟩ = 0 then (if pathR ⟨(s.data.toList.take k).toArray⟩ ⟨key.toArray⟩ = s.data.toList then some (s.data.toList.take k, key) else none) else none := by
            simp [ofR, HC.out, HD.out]
          by_cases he : pathE ⟨(s.data.toList.take k).toArray⟩ ⟨key.toArray⟩ = 0
          · by_cases hr : pathR ⟨(s.data.toList.take k).toArray⟩ ⟨key.toArray⟩ = s.data.toList
            · have HO : Hid (ofR s.data.toList = some (s.data.toList.take k, key)) := Lib.hid (by rw [hof, if_pos he, if_pos hr])
              rw [he, hr]
              clear hof he hr
              have hbt := bs_beq s
              go_wp2
              go_ret3
              have h := HO.out
              exact ⟨fun hn => (by rw [hn] at h; cases h), fun b' k' hh => (by rw [hh] at h; cases h; rfl), hb5⟩
            · have HO : Hid (ofR s.data.toList = none) := Lib.hid (by rw [hof, if_pos he, if_neg hr])
              rw [he]
              have hbf : (pathR ⟨(s.data.toList.take k).toArray⟩ ⟨key.toArray⟩ == s.toList) = false := by rw [bs_toList]; simpa using hr
              clear hof he hr
              go_wp2
              go_ret3
              have h := HO.out
              exact ⟨fun hn => rfl, fun b' k' hh => (by rw [hh] at h; cases h), hb5⟩
          · have HO : Hid (ofR s.data.toList = none) := Lib.hid (by rw [hof, if_neg he])
            have hbn : (pathE ⟨(s.data.toList.take k).toArray⟩ ⟨key.toArray⟩ != 0) = true := by simpa using he
            clear hof he
            go_wp2
            go_ret3
            have h := HO.out
            exact ⟨fun hn => rfl, fun b' k' hh => (by rw [hh] at h; cases h), hb5⟩
      · have hp' : ¬ (c.toNat : Int) = 47 := fun e => hp (by apply UInt8.toNat_inj.1; simpa using (by omega : c.toNat = 47))
        have HN : Hid (cutAt 47 s.data.toList = (cutAt 47 (s.data.toList.drop (k + 1))).map (fun p => (s.data.toList.take (k + 1) ++ p.1, p.2))) := Lib.hid (by
          have h := H.out
          rw [h]
          have ht : s.data.toList.take (k + 1) = s.data.toList.take k ++ [c] := by
            rw [List.take_succ_eq_append_getElem (by simpa using hlt)]
            congr 2
          simp only [cutAt, if_neg hp, ht]
          cases cutAt 47 (s.data.toList.drop (k + 1)) <;> simp)
        clear hdr H
        go_wp2
        go_roundw
        case rel => exact ⟨k + 1, by omega, by go_num, hb, HN⟩
        case measure => simp [intOf]; omega
    · rw [List.drop_of_length_le (by simp; omega)] at H
      go_wp2
      go_ret3
      have h := H.out
      have hn : ofR s.data.toList = none := by simp [ofR, h, cutAt]
      exact ⟨fun _ => rfl, fun b k h => (by rw [hn] at h; cases h), hb⟩
theorem pathGo_len : ∀ l : List UInt8, (pathGo l).length ≤ 3 * l.length
  | [] => by simp [pathGo]
  | c :: r => by
    have := pathGo_len r
    simp only [pathGo, List.length_append, List.length_cons]
    split <;> simp <;> omega
theorem pathE_ok (b k : ByteArray) : pathE b k = 0 ↔ bucketB b = true ∧ keyB k = true := by
  unfold pathE
  by_cases h1 : bucketB b = true <;> by_cases h2 : keyB k = true <;> simp [h1, h2]
theorem ofR_cut {l b rest : List UInt8} (hc : cutAt 47 l = some (b, rest)) : ofR l = match decGo rest with
    | none => none
    | some key => if bucketB ⟨b.toArray⟩ = true ∧ keyB ⟨key.toArray⟩ = true ∧ b ++ 47 :: pathGo key = l then some (b, key) else none := by
  simp only [ofR, hc]
  cases decGo rest with
  | none => rfl
  | some key =>
    by_cases h1 : bucketB ⟨b.toArray⟩ = true
    · by_cases h2 : keyB ⟨key.toArray⟩ = true
      · simp [pathE, pathR, h1, h2]
      · simp [pathE, h1, h2]
    · simp [pathE, h1]
theorem ofR_long {l b rest : List UInt8} (hc : cutAt 47 l = some (b, rest)) (hl : 360 < rest.length) : ofR l = none := by
  rw [ofR_cut hc]
  obtain ⟨_, hl2⟩ := cutAt_some 47 l b rest hc
  cases decGo rest with
  | none => rfl
  | some key =>
    simp only
    rw [if_neg]
    rintro ⟨_, h2, h3⟩
    have h4 : pathGo key = rest := by
      rw [hl2] at h3
      have := List.append_cancel_left h3
      simpa using this
    have h5 := pathGo_len key
    have h6 : key.length ≤ 120 := by
      simp only [keyB, Bool.and_eq_true, decide_eq_true_eq] at h2
      have := h2.2.2
      rw [bs_len] at this
      simpa using this
    rw [h4] at h5
    omega
def OfRel (rest : ByteArray) (w : World) (v i : Value) (wr : World) : Prop :=
  ∃ (j : Nat) (acc : List UInt8), j ≤ rest.size ∧ i = .int .i64 j ∧ acc.length ≤ j ∧ wr.ownsRow w.heap.size 5 1 v acc.length (Lib.byteCells acc) ∧ Below w.heap.size w wr ∧
    (decGo (rest.data.toList.drop j)).map (acc ++ ·) = decGo rest.data.toList
set_option maxHeartbeats 2000000 in
set_option maxRecDepth 100000 in
theorem Of_any (s : ByteArray) (w : World) (hs : s.size ≤ 1000) :
    Calls Try.prog 14 #[.string s] w fun e w' => (ofR s.data.toList = none → e = .returned (.tuple #[.string ⟨#[]⟩, .string ⟨#[]⟩, .int .i64 4])) ∧
      (∀ b k, ofR s.data.toList = some (b, k) → e = .returned (.tuple #[.string ⟨b.toArray⟩, .string ⟨k.toArray⟩, .int .i64 0])) ∧ Below w.heap.size w w' := by
  cases hcut : cutAt 47 s.data.toList with
  | none =>
    have hn : ofR s.data.toList = none := by simp [ofR, hcut]
    have HN := Lib.hid hn
    clear hn
    go_enter Try.func14, Try.ntmps14
    go_wp2
    go_step3
    go_wp2_with fail
    refine (cut_none s 47 _ hcut).mono ?_
    rintro e w1 ⟨rfl, rfl⟩
    clear hcut
    go_wp2
    (try rw [Exit.noGoto_ret])
    go_ret3
    exact ⟨fun _ => rfl, fun b k h => (by rw [HN.out] at h; cases h), Below.refl _ _⟩
  | some p =>
    obtain ⟨b0, rest0⟩ := p
    obtain ⟨-, hl2⟩ := cutAt_some 47 _ b0 rest0 hcut
    have hlen0 : b0.length + rest0.length < 1000 := by have := congrArg List.length hl2; simp at this; omega
    obtain ⟨b, rfl⟩ := bs_of b0
    obtain ⟨rest, rfl⟩ := bs_of rest0
    have hlen : b.size + rest.size < 1000 := by simpa using hlen0
    clear hlen0
    have HC := Lib.hid hcut
    have HL := Lib.hid hl2
    clear hl2 hcut
    by_cases hB : bucketB b = true
    · by_cases h360 : 360 < rest.size
      · have HN := Lib.hid (ofR_long HC.out (by simpa using h360))
        go_enter Try.func14, Try.ntmps14
        go_wp2
        go_step3
        go_wp2_with fail
        refine (cut_someB s 47 b rest _ (by omega) HC.out).mono ?_
        rintro e w1 ⟨rfl, nq, hq⟩
        have hb := below_drewN (Below.refl w.heap.size w) nq
        rw [← hq] at hb
        clear hq
        go_wp2_with fail
        refine (bucket_any _ _).mono ?_
        rintro e w2 ⟨rfl, hq⟩
        replace hb := bstep hb hq (Nat.le_refl _)
        clear hq
        go_wp2
        (try rw [Exit.noGoto_ret])
        go_ret3
        exact ⟨fun _ => rfl, fun b k h => (by rw [HN.out] at h; cases h), hb⟩
      · obtain ⟨i0, hi, hz0, hz1, hz2⟩ := info_parts infoU8
        go_enter Try.func14, Try.ntmps14
        go_wp2
        go_step3
        go_wp2_with fail
        refine (cut_someB s 47 b rest _ (by omega) HC.out).mono ?_
        rintro e w1 ⟨rfl, nq, hq⟩
        have hb := below_drewN (Below.refl w.heap.size w) nq
        rw [← hq] at hb
        clear hq
        go_wp2_with fail
        refine (bucket_any _ _).mono ?_
        rintro e w2 ⟨rfl, hq⟩
        replace hb := bstep hb hq (Nat.le_refl _)
        clear hq
        go_wp2
        go_step3
        go_wp2
        go_loopw [8, 9] (fun v i wr => OfRel rest w v i wr) (fun _ i _ => rest.size - (intOf i).toNat)
        case atStart =>
          unfold OfRel
          exact ⟨0, [], Nat.zero_le _, rfl, Nat.zero_le _, World.ownsRow_nil _ _ _ _, hb, by simp⟩
        case round =>
          obtain ⟨j, acc, hj, rfl, hac, hown, hbr, h⟩ := hrel
          have H := Lib.hid h
          clear h
          by_cases hlt : j < rest.size
          · obtain ⟨c, hc, hdr⟩ := next_at rest j hlt
            rw [hdr] at H
            have hz := hbr.size
            by_cases hp : c = 37
            · subst hp
              by_cases h3 : j + 3 ≤ rest.size
              · obtain ⟨a', ha', hda⟩ := next_at rest (j + 1) (by omega)
                obtain ⟨b', hb', hdb⟩ := next_at rest (j + 1 + 1) (by omega)
                rw [hda, hdb, decGo_pct] at H
                clear hdr hda hdb
                have hb'' : rest[j + 2]'(by omega) = b' := hb'
                have a1 := hexN_lo a'.toNat
                have a2 := hexN_hi a'.toNat
                have b1 := hexN_lo b'.toNat
                have b2 := hexN_hi b'.toNat
                by_cases hA : hexN a'.toNat < 0
                · go_wp2
                  have q1 : IntKind.i64.wrap ((j : Int) + 1) = (j : Int) + 1 := IntWalk.i64_in _ (by omega)
                  have q2 : IntKind.i64.wrap ((j : Int) + 2) = (j : Int) + 2 := IntWalk.i64_in _ (by omega)
                  have q3 : (0 : Int) ≤ (j : Int) + 1 ∧ (j : Int) + 1 < (rest.size : Int) := by omega
                  have q4 : (0 : Int) ≤ (j : Int) + 2 ∧ (j : Int) + 2 < (rest.size : Int) := by omega
                  have q5 : ((j : Int) + 1).toNat = j + 1 := by omega
                  have q6 : ((j : Int) + 2).toNat = j + 2 := by omega
                  go_quiet ((first | (go_at_call 23; exact Calls.quiet_of_same (idx_any _ _))))
                  clear q1 q2 q3 q4 q5 q6
                  go_wp2
                  (try rw [Exit.noGoto_ret])
                  go_ret3
                  have hn : decGo rest.data.toList = none := by have h := H.out; rw [← h]; simp [hA]
                  have HN : ofR s.data.toList = none := by rw [ofR_cut HC.out, hn]
                  exact ⟨fun _ => rfl, fun b k h => (by rw [HN] at h; cases h), below_drewN hbr _⟩
                · by_cases hBB : hexN b'.toNat < 0
                  · go_wp2
                    have q1 : IntKind.i64.wrap ((j : Int) + 1) = (j : Int) + 1 := IntWalk.i64_in _ (by omega)
                    have q2 : IntKind.i64.wrap ((j : Int) + 2) = (j : Int) + 2 := IntWalk.i64_in _ (by omega)
                    have q3 : (0 : Int) ≤ (j : Int) + 1 ∧ (j : Int) + 1 < (rest.size : Int) := by omega
                    have q4 : (0 : Int) ≤ (j : Int) + 2 ∧ (j : Int) + 2 < (rest.size : Int) := by omega
                    have q5 : ((j : Int) + 1).toNat = j + 1 := by omega
                    have q6 : ((j : Int) + 2).toNat = j + 2 := by omega
                    go_quiet ((first | (go_at_call 23; exact Calls.quiet_of_same (idx_any _ _))))
                    clear q1 q2 q3 q4 q5 q6
                    go_wp2
                    (try rw [Exit.noGoto_ret])
                    go_ret3
                    have hn : decGo rest.data.toList = none := by have h := H.out; rw [← h]; simp [hA, hBB]
                    have HN : ofR s.data.toList = none := by rw [ofR_cut HC.out, hn]
                    exact ⟨fun _ => rfl, fun b k h => (by rw [HN] at h; cases h), below_drewN hbr _⟩
                  · go_wp2
                    have q1 : IntKind.i64.wrap ((j : Int) + 1) = (j : Int) + 1 := IntWalk.i64_in _ (by omega)
                    have q2 : IntKind.i64.wrap ((j : Int) + 2) = (j : Int) + 2 := IntWalk.i64_in _ (by omega)
                    have q3 : (0 : Int) ≤ (j : Int) + 1 ∧ (j : Int) + 1 < (rest.size : Int) := by omega
                    have q4 : (0 : Int) ≤ (j : Int) + 2 ∧ (j : Int) + 2 < (rest.size : Int) := by omega
                    have q5 : ((j : Int) + 1).toNat = j + 1 := by omega
                    have q6 : ((j : Int) + 2).toNat = j + 2 := by omega
                    go_quiet ((first | (go_at_call 23; exact Calls.quiet_of_same (idx_any _ _))))
                    clear q1 q2 q3 q4 q5 q6
                    go_wp2_with (at_builtin; go_must (refine wpList_push rfl _ _ 34 rfl w.heap.size 5 i0 (.int .u8 0) 1 Try.underlying34 hi hz0 hz1 hz2 rfl _ _ _ rfl (World.ownsRow.alloc hown _) ⟨wr.heap.size, 0, none⟩ _ rfl (cell_new _ _ _) rfl (by omega) (by omega) (by simp; omega) ?_); intro v2 w2 hown2 hgrow hat)
                    all_goals try (exfalso; omega)
                    have hb2 := below_push hbr (Nat.le_refl _) _ hgrow (fun k hk => (hown.lt k hk).1)
                    have hown3 := ownsRow_snoc hown2 (hexByte a' b') (hexByte_or a' b' (by omega) (by omega))
                    clear hown hown2 hgrow hat
                    go_wp2
                    go_roundw
                    case rel =>
                      have HR : OfRel rest w v2 (.int .i64 ((j : Int) + 3)) w2 := by
                        have h := H.out
                        rw [if_neg (by omega), if_neg (by omega)] at h
                        exact ⟨j + 3, acc ++ [hexByte a' b'], by omega, by go_num, by simp; omega, hown3, hb2, by rw [← h]; cases decGo (rest.data.toList.drop (j + 1 + 1 + 1)) <;> simp⟩
                      first | exact HR | ((repeat apply Exists.intro); refine ⟨HR, ?_⟩; first | rfl | (repeat' (first | apply And.intro | rfl)))
                    case measure => simp [intOf]; omega
              · have hn : decGo (37 :: rest.data.toList.drop (j + 1)) = none := decGo_short _ (by simp; omega)
                rw [hn] at H
                clear hdr hn
                go_wp2
                (try rw [Exit.noGoto_ret])
                go_ret3
                have h := H.out
                have HN : ofR s.data.toList = none := by rw [ofR_cut HC.out, ← h]; rfl
                exact ⟨fun _ => rfl, fun b k h => (by rw [HN] at h; cases h), hbr⟩
            · have hp' : ¬ (c.toNat : Int) = 37 := fun e => hp (by apply UInt8.toNat_inj.1; simpa using (by omega : c.toNat = 37))
              rw [decGo_plain c _ hp] at H
              clear hdr
              go_wp2_with (at_builtin; go_must (refine wpList_push rfl _ _ 34 rfl w.heap.size 5 i0 (.int .u8 0) 1 Try.underlying34 hi hz0 hz1 hz2 rfl _ _ _ rfl (World.ownsRow.alloc hown _) ⟨wr.heap.size, 0, none⟩ _ rfl (cell_new _ _ _) rfl (by omega) (by omega) (by simp; omega) ?_); intro v2 w2 hown2 hgrow hat)
              have hb2 := below_push0 hbr (Nat.le_refl _) hgrow (fun k hk => (hown.lt k hk).1)
              have hown3 := ownsRow_snoc hown2 c rfl
              clear hown hown2 hgrow hat
              go_wp2
              go_roundw
              case rel =>
                have HR : OfRel rest w v2 (.int .i64 ((j : Int) + 1)) w2 := by
                  have h := H.out
                  exact ⟨j + 1, acc ++ [c], by omega, by go_num, by simp; omega, hown3, hb2, by rw [← h]; cases decGo (rest.data.toList.drop (j + 1)) <;> simp⟩
                first | exact HR | ((repeat apply Exists.intro); refine ⟨HR, ?_⟩; first | rfl | (repeat' (first | apply And.intro | rfl)))
              case measure => simp [intOf]; omega
          · rw [List.drop_of_length_le (by simp; omega)] at H
            have hk : decGo rest.data.toList = some acc := by have h := H.out; simpa [decGo] using h.symm
            have hal : acc.length ≤ 1000 := by omega
            have hO : ofR s.data.toList = if bucketB b = true ∧ keyB ⟨acc.toArray⟩ = true ∧ b.data.toList ++ 47 :: pathGo acc = s.data.toList then some (b.data.toList, acc) else none := by
              rw [ofR_cut HC.out, hk, ← bs_mk (a := b) rfl]
            clear H hk
            have cb := conv_back (P := Try.prog) hown 34 9 Try.underlying34 Try.underlying5 Try.underlying9
            by_cases hkey : keyB ⟨acc.toArray⟩ = true
            · by_cases hpath : b.data.toList ++ 47 :: pathGo acc = s.data.toList
              · have HO : Hid (ofR s.data.toList = some (b.data.toList, acc)) := Lib.hid (by rw [hO, if_pos ⟨hB, hkey, hpath⟩])
                have HP := Lib.hid hpath
                clear hO hpath
                go_wp2_with fail
                refine (key_any _ _ (by rw [bs_len]; simp; omega)).mono ?_
                rintro e w3 ⟨rfl, hq⟩
                have hown3 := ownsRow_below hown hq
                replace hbr := bstep hbr hq (Nat.le_refl _)
                have cb3 := conv_back (P := Try.prog) hown3 34 9 Try.underlying34 Try.underlying5 Try.underlying9
                clear hq cb hown
                go_wp2_with fail
                refine (path_any _ _ _ (by omega) (by rw [bs_len]; simp; omega)).mono ?_
                rintro e w4 ⟨rfl, hq⟩
                have hown4 := ownsRow_below hown3 hq
                replace hbr := bstep hbr hq (Nat.le_refl _)
                have cb4 := fun n : Nat => conv_back (P := Try.prog) (w := w4.drewN n) hown4 34 9 Try.underlying34 Try.underlying5 Try.underlying9
                clear hq cb3 hown3 hown4
                rw [HP.out]
                have hbt := bs_beq s
                go_wp2
                go_quiet (fail)
                go_wp2
                (try rw [Exit.noGoto_ret])
                go_ret3
                have h := HO.out
                exact ⟨fun hn => (by rw [hn] at h; cases h), fun b' k' hh => (by rw [hh] at h; cases h; exact ret_sse (bs_mk rfl) rfl rfl), below_drewN hbr _⟩
              · have HO : Hid (ofR s.data.toList = none) := Lib.hid (by rw [hO, if_neg (fun h => hpath h.2.2)])
                have hbf : (b.data.toList ++ 47 :: pathGo acc == s.toList) = false := by rw [bs_toList]; simpa using hpath
                clear hO hpath
                go_wp2_with fail
                refine (key_any _ _ (by rw [bs_len]; simp; omega)).mono ?_
                rintro e w3 ⟨rfl, hq⟩
                have hown3 := ownsRow_below hown hq
                replace hbr := bstep hbr hq (Nat.le_refl _)
                have cb3 := conv_back (P := Try.prog) hown3 34 9 Try.underlying34 Try.underlying5 Try.underlying9
                clear hq cb hown
                go_wp2_with fail
                refine (path_any _ _ _ (by omega) (by rw [bs_len]; simp; omega)).mono ?_
                rintro e w4 ⟨rfl, hq⟩
                replace hbr := bstep hbr hq (Nat.le_refl _)
                clear hq cb3 hown3
                go_wp2
                (try rw [Exit.noGoto_ret])
                go_ret3
                have h := HO.out
                exact ⟨fun hn => rfl, fun b' k' hh => (by rw [hh] at h; cases h), hbr⟩
            · have HO : Hid (ofR s.data.toList = none) := Lib.hid (by rw [hO, if_neg (fun h => hkey h.2.1)])
              clear hO
              go_wp2_with fail
              refine (key_any _ _ (by rw [bs_len]; simp; omega)).mono ?_
              rintro e w3 ⟨rfl, hq⟩
              replace hbr := bstep hbr hq (Nat.le_refl _)
              clear hq cb hown
              go_wp2
              (try rw [Exit.noGoto_ret])
              go_ret3
              have h := HO.out
              exact ⟨fun hn => rfl, fun b' k' hh => (by rw [hh] at h; cases h), hbr⟩
    · have HN : Hid (ofR s.data.toList = none) := Lib.hid (by rw [ofR_cut HC.out, ← bs_mk (a := b) rfl]; cases decGo rest.data.toList <;> simp [hB])
      go_enter Try.func14, Try.ntmps14
      go_wp2
      go_step3
      go_wp2_with fail
      refine (cut_someB s 47 b rest _ (by omega) HC.out).mono ?_
      rintro e w1 ⟨rfl, nq, hq⟩
      have hb := below_drewN (Below.refl w.heap.size w) nq
      rw [← hq] at hb
      clear hq
      go_wp2_with fail
      refine (bucket_any _ _).mono ?_
      rintro e w2 ⟨rfl, hq⟩
      replace hb := bstep hb hq (Nat.le_refl _)
      clear hq
      go_wp2
      (try rw [Exit.noGoto_ret])
      go_ret3
      exact ⟨fun _ => rfl, fun b k h => (by rw [HN.out] at h; cases h), hb⟩
end Go.Proofs.Ytjmhofkdebdobaa
