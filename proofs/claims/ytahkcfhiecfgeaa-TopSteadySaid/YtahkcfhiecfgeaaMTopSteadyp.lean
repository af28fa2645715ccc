/- Texts of this proof, put together: Bg20, Cm20. -/
import Derived.Test.YtahkcfhiecfgeaaProg
import Derived.Test.YtahkcfhiecfgeaaMTopSteadya
import Derived.Test.YtahkcfhiecfgeaaMTopSteadyj
import Derived.Lib.SlBytesConst
section
/- Listing: does a text begin with another one? -/
namespace Go.Proofs.Ytahkcfhiecfgeaa
open Go.RowKit
set_option linter.unusedVariables false
set_option linter.unusedSimpArgs false
theorem begins_pre (s p : ByteArray) : p.data.toList.isPrefixOf s.data.toList = (decide (p.size ≤ s.size) && (s.data.toList.take p.size == p.data.toList)) := by
  have hl : p.data.toList.length = p.size := by simp
  have hm : s.data.toList.length = s.size := by simp
  rw [Bool.eq_iff_iff, List.isPrefixOf_iff_prefix]
  simp only [Bool.and_eq_true, decide_eq_true_eq, beq_iff_eq]
  constructor
  · intro h
    have h1 := h.length_le
    exact ⟨by omega, by rw [← hl]; exact (List.prefix_iff_eq_take.1 h).symm⟩
  · rintro ⟨_, h⟩
    rw [← h]
    exact List.take_prefix _ _
set_option maxRecDepth 10000 in
set_option maxHeartbeats 1000000 in
theorem begins_any (s p : ByteArray) (w : World) (hs : s.size ≤ 1000000) (hp : p.size ≤ 1000000) : Calls Try.prog 35 #[.string s, .string p] w fun e w' => e = .returned (.bool (p.data.toList.isPrefixOf s.data.toList)) ∧ w' = w := by
  have hpre := begins_pre s p
  go_enter Try.func35, Try.ntmps35
  by_cases hle : p.size ≤ s.size
  · have hsl := fun W => slice_to (P := Try.prog) 9 Try.underlying9 .i64 s p.size p.size rfl hle W
    go_wp2
    go_ret
    exact ⟨by rw [hpre]; simp [hle, bs_toList], rfl⟩
  · go_wp2
    go_ret
    exact ⟨by rw [hpre]; simp [hle, bs_toList], rfl⟩
set_option maxRecDepth 10000 in
set_option maxHeartbeats 1000000 in
theorem starts_any (s p : ByteArray) (w : World) (hs : s.size ≤ 1000000) (hp : p.size ≤ 1000000) : Calls Try.prog 25 #[.string s, .string p] w fun e w' => e = .returned (.bool (p.data.toList.isPrefixOf s.data.toList)) ∧ w' = w := by
  have hpre := begins_pre s p
  go_enter Try.func25, Try.ntmps25
  by_cases hle : p.size ≤ s.size
  · have hsl := fun W => slice_to (P := Try.prog) 9 Try.underlying9 .i64 s p.size p.size rfl hle W
    go_wp2
    go_ret
    exact ⟨by rw [hpre]; simp [hle, bs_toList], rfl⟩
  · go_wp2
    go_ret
    exact ⟨by rw [hpre]; simp [hle, bs_toList], rfl⟩
end Go.Proofs.Ytahkcfhiecfgeaa
end
section
/- Listing: the reference's common prefix. -/
namespace Go.Proofs.Ytahkcfhiecfgeaa
open Go.RowKit
set_option linter.unusedVariables false
set_option linter.unusedSimpArgs false
theorem slice_mid {P : Program} (t : TypeId) (ht : P.underlying t = some .string) (k k' : IntKind) (s : ByteArray) (i j : Int) (n m : Nat) (hi : i = n) (hj : j = ((n + m : Nat) : Int)) (hn : n + m ≤ s.size) (W : World) :
    (Instr.slice t (.string s) (some (.int k i)) (some (.int k' j)) none).run P W = .ok (.string ⟨((s.data.toList.drop n).take m).toArray⟩) W := by
  subst hi hj
  rw [run_slice_string (P := P) (w := W) t _ k k' _ _ ht (by omega) (by omega) (by omega)]
  rw [Int.toNat_natCast, Int.toNat_natCast, ext_list, show n + m - n = m by omega]
def stC (K d : Bs) (i : Nat) : Option Bs := (headL d (K.drop i)).map fun h => K.take i ++ h ++ d
theorem headL_hit (d : Bs) : ∀ l : Bs, d <+: l → headL d l = some []
  | [], h => by unfold headL; rw [if_pos (List.prefix_nil.1 h)]
  | x :: r, h => by unfold headL; rw [if_pos h]
theorem stC_hit (K d : Bs) (i : Nat) (h : (K.drop i).take d.length = d) : stC K d i = some (K.take (i + d.length)) := by
  have hp : d <+: K.drop i := by rw [← h]; exact List.take_prefix _ _
  unfold stC
  rw [headL_hit d _ hp]
  simp only [Option.map_some, List.append_nil, Option.some.injEq]
  rw [List.take_add, h]
theorem stC_step (K d : Bs) (i : Nat) (hi : i < K.length) (h : ¬ (K.drop i).take d.length = d) : stC K d i = stC K d (i + 1) := by
  obtain ⟨x, hx, hd⟩ := next_elem K i hi
  have hn : ¬ d <+: K.drop i := fun hp => h (List.prefix_iff_eq_take.1 hp).symm
  unfold stC
  rw [hd] at hn ⊢
  conv => lhs; unfold headL
  rw [if_neg hn, Option.map_map]
  congr 1
  funext r
  have ht : K.take (i + 1) = K.take i ++ [x] := by rw [List.take_add_one, hx]; rfl
  simp [ht]
theorem stC_end (K d : Bs) (i : Nat) (hi : i ≤ K.length) (h : K.length < i + d.length) : stC K d i = none := by
  unfold stC
  cases hh : headL d (K.drop i) with
  | none => rfl
  | some g =>
    obtain ⟨r, hr⟩ := headL_some d _ g hh
    have := congrArg List.length hr
    simp at this
    omega
theorem stC_start (p d K : Bs) (hp : p <+: K) (hd : d ≠ []) : commonL p d K = stC K d p.length := by
  unfold commonL stC
  rw [if_neg hd, show K.take p.length = p from (List.prefix_iff_eq_take.1 hp).symm]
def comR (o : Option Bs) : Value := match o with
  | some c => .tuple #[.string (BA c), .bool true]
  | none => .tuple #[.string ⟨#[]⟩, .bool false]
set_option maxRecDepth 10000 in
set_option maxHeartbeats 1000000 in
theorem common_any (k p d : ByteArray) (w : World) (hk : k.size ≤ 1000000) (hps : p.size ≤ 1000000) (hds : d.size ≤ 1000000) (hp : p.data.toList <+: k.data.toList) : Calls Try.prog 36 #[.string k, .string p, .string d] w fun e w' => e = .returned (comR (commonL p.data.toList d.data.toList k.data.toList)) ∧ w' = w := by
  have lk : k.data.toList.length = k.size := by simp
  have lp : p.data.toList.length = p.size := by simp
  have ld : d.data.toList.length = d.size := by simp
  have hle := hp.length_le
  go_enter Try.func36, Try.ntmps36
  by_cases hd : d.data.toList = []
  · have HV := Lib.hid (show commonL p.data.toList d.data.toList k.data.toList = none by unfold commonL; rw [if_pos hd])
    have hd0 : d = ⟨#[]⟩ := bs_ext (by rw [hd])
    subst hd0
    go_wp2
    go_ret2
    exact ⟨by rw [HV.out]; rfl, rfl⟩
  · have hd1 : d.toList.isEmpty = false := by rw [bs_toList]; cases h : d.data.toList with
      | nil => exact absurd h hd
      | cons a r => rfl
    have hdz : d.size ≠ 0 := fun h => hd (List.eq_nil_of_length_eq_zero (by omega))
    have HV := Lib.hid (stC_start _ d.data.toList _ hp hd)
    rw [HV.out]
    clear hd
    go_wp2
    go_loopw [8] (fun i wr => ∃ n : Nat, n ≤ k.size ∧ i = .int .i64 n ∧ wr = w ∧ Hid (stC k.data.toList d.data.toList p.data.toList.length = stC k.data.toList d.data.toList n)) (fun i _ => k.size - (intOf i).toNat)
    case atStart => exact ⟨p.size, by omega, rfl, rfl, Lib.hid (by rw [lp])⟩
    case round =>
      obtain ⟨n, hn, rfl, rfl, H⟩ := hrel
      have q1 : IntKind.i64.wrap ((n : Int) + (d.size : Int)) = (n : Int) + (d.size : Int) := IntWalk.i64_in _ (by omega)
      by_cases hlt : n + d.size ≤ k.size
      · have hsl := fun W => slice_mid (P := Try.prog) 9 Try.underlying9 .i64 .i64 k n ((n : Int) + (d.size : Int)) n d.size rfl (by omega) hlt W
        have hst := fun W => slice_to (P := Try.prog) 9 Try.underlying9 .i64 k ((n : Int) + (d.size : Int)) (n + d.size) (by omega) hlt W
        by_cases hit : (k.data.toList.drop n).take d.size = d.data.toList
        · have HH := Lib.hid (stC_hit k.data.toList d.data.toList n (by rw [ld]; exact hit))
          have hq : ((k.data.toList.drop n).take d.size == d.toList) = true := by rw [bs_toList]; simp [hit]
          clear hit
          go_wp2
          go_ret2
          exact ⟨by rw [H.out, HH.out, ld]; rfl, rfl⟩
        · have HH := Lib.hid (stC_step k.data.toList d.data.toList n (by omega) (by rw [ld]; exact hit))
          have hq : ((k.data.toList.drop n).take d.size == d.toList) = false := by rw [bs_toList]; simp [hit]
          clear hit
          go_wp2
          go_roundw
          case rel => exact ⟨n + 1, by omega, by go_num, trivial, Lib.hid (by rw [H.out, HH.out])⟩
          case measure => simp [intOf]; omega
      · have HH := Lib.hid (stC_end k.data.toList d.data.toList n (by omega) (by omega))
        go_wp2
        go_ret2
        exact ⟨by rw [H.out, HH.out]; rfl, rfl⟩
end Go.Proofs.Ytahkcfhiecfgeaa
end
