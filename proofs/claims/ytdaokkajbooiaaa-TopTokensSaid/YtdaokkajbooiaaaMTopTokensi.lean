/- Texts of this proof, put together: En20, Ck20. -/
import Derived.Test.YtdaokkajbooiaaaProg
import Derived.Test.YtdaokkajbooiaaaMTopTokensb
import Derived.Test.YtdaokkajbooiaaaMTopTokensh
import Derived.Test.YtdaokkajbooiaaaMTopTokensa
import Derived.WalkLawsBesides
import Derived.Deep.QuietTactic
import Derived.BigQuiet
section
/- Listing: entries, versions, items in memory. -/
namespace Go.Proofs.Ytdaokkajbooiaaa
open Go.RowKit
set_option linter.unusedVariables false
set_option linter.unusedSimpArgs false
/-- A slice of rows of so many cells each. -/
def SrcR (w : World) (v : Value) (sz : Nat) (rows : List (List Value)) : Prop := (∃ A c, v = .slice A 0 c ∧ rows = []) ∨ ∃ b off c, v = .slice (some ⟨b, off, none⟩) rows.length c ∧ rows.length ≤ c ∧ ∀ i row, rows[i]? = some row → ∀ j x, row[j]? = some x → w.cell? ⟨b, off + i * sz + j, none⟩ = some x
theorem SrcR.block {w w' : World} {v : Value} {sz : Nat} {rows : List (List Value)} (h : SrcR w v sz rows) (hb : Below w.heap.size w w') : SrcR w' v sz rows := by
  rcases h with h | ⟨b, off, c, hv, hl, hc⟩
  · exact .inl h
  · exact .inr ⟨b, off, c, hv, hl, fun i row hi j x hj => below_cell hb (hc i row hi j x hj)⟩
theorem SrcR.form {w : World} {v : Value} {sz : Nat} {rows : List (List Value)} (h : SrcR w v sz rows) : ∃ A c, v = .slice A rows.length c := by
  rcases h with ⟨A, c, rfl, rfl⟩ | ⟨b, off, c, rfl, _, _⟩
  · exact ⟨A, c, rfl⟩
  · exact ⟨_, c, rfl⟩
theorem SrcR.at {w : World} {A : Option Addr} {n c sz : Nat} {rows : List (List Value)} (h : SrcR w (.slice A n c) sz rows) {i : Nat} {row : List Value} (hi : rows[i]? = some row) : ∃ b off, A = some ⟨b, off, none⟩ ∧ n ≤ c ∧ ∀ j x, row[j]? = some x → w.cell? ⟨b, off + i * sz + j, none⟩ = some x := by
  rcases h with ⟨A', c', h, rfl⟩ | ⟨b, off, c', h, hl, hc⟩
  · simp at hi
  · injection h with h1 h2 h3
    subst h2 h3
    exact ⟨b, off, h1, hl, hc i row hi⟩
abbrev BA (b : Bs) : ByteArray := ⟨b.toArray⟩
def verC (v : Ver) : List Value := [.string (BA v.id), .int .i64 v.time, .bool v.mark, .int .i64 v.size, .string (BA v.etag)]
def itmC (x : Itm) : List Value := [.string (BA x.name), .bool x.common, .string (BA x.v.id), .int .i64 x.v.time, .bool x.v.mark, .int .i64 x.v.size, .string (BA x.v.etag), .bool x.latest]
def EntsAt (w : World) (v : Value) (es : List Ent) : Prop := ∃ vss : List Value, vss.length = es.length ∧ SrcR w v 2 (List.zipWith (fun e x => [.string (BA e.key), x]) es vss) ∧ ∀ (i : Nat) (e : Ent) (x : Value), es[i]? = some e → vss[i]? = some x → SrcR w x 5 (e.vs.map verC)
theorem EntsAt.block {w w' : World} {v : Value} {es : List Ent} (h : EntsAt w v es) (hb : Below w.heap.size w w') : EntsAt w' v es := by
  obtain ⟨vss, h1, h2, h3⟩ := h
  exact ⟨vss, h1, h2.block hb, fun i e x he hx => (h3 i e x he hx).block hb⟩
theorem EntsAt.form {w : World} {v : Value} {es : List Ent} (h : EntsAt w v es) : ∃ A c, v = .slice A es.length c := by
  obtain ⟨vss, h1, h2, h3⟩ := h
  obtain ⟨A, c, h⟩ := h2.form
  rw [List.length_zipWith, h1, Nat.min_self] at h
  exact ⟨A, c, h⟩
theorem EntsAt.at {w : World} {A : Option Addr} {n c : Nat} {es : List Ent} (h : EntsAt w (.slice A n c) es) {i : Nat} (hi : i < es.length) : ∃ b off e x, A = some ⟨b, off, none⟩ ∧ es[i]? = some e ∧ es.drop i = e :: es.drop (i + 1) ∧
    w.cell? ⟨b, off + i * 2, none⟩ = some (.string (BA e.key)) ∧ w.cell? ⟨b, off + i * 2 + 1, none⟩ = some x ∧ SrcR w x 5 (e.vs.map verC) := by
  obtain ⟨vss, h1, h2, h3⟩ := h
  obtain ⟨e, he, hd⟩ := next_elem es i hi
  obtain ⟨x, hx, _⟩ := next_elem vss i (by omega)
  obtain ⟨b, off, hA, _, hc⟩ := h2.at (i := i) (row := [.string (BA e.key), x]) (by simp [List.getElem?_zipWith, he, hx])
  exact ⟨b, off, e, x, hA, he, hd, hc 0 _ rfl, hc 1 _ rfl, h3 i e x he hx⟩
theorem ba_toList (b : Bs) : (BA b).toList = b := by rw [bs_toList]
end Go.Proofs.Ytdaokkajbooiaaa
end
section
/- Listing: Check of both. -/
namespace Go.Proofs.Ytdaokkajbooiaaa
open Go.RowKit
set_option linter.unusedVariables false
set_option linter.unusedSimpArgs false
def prevK (es : List Ent) (k : Nat) : Option Bs := if k = 0 then none else (es[k - 1]?).map (·.key)
def checkV (es : List Ent) : Int := if okFrom none es then 0 else 2
theorem okFrom_bad {q : Option Bs} {e : Ent} {r : List Ent} (h : e.vs = [] ∨ ∃ p, q = some p ∧ ¬ p < e.key) : okFrom q (e :: r) = false := by
  unfold okFrom
  rcases h with h | ⟨p, rfl, h⟩
  · simp [h]
  · simp [h]
theorem okFrom_good {q : Option Bs} {e : Ent} {r : List Ent} (h : e.vs ≠ []) (h2 : ∀ p, q = some p → p < e.key) : okFrom q (e :: r) = okFrom (some e.key) r := by
  conv => lhs; unfold okFrom
  cases q with
  | none => cases hv : e.vs with
    | nil => exact absurd hv h
    | cons a b => simp
  | some p => cases hv : e.vs with
    | nil => exact absurd hv h
    | cons a b => simp [h2 p rfl]
set_option maxRecDepth 10000 in
set_option maxHeartbeats 1000000 in
theorem check_any (b : Value) (es : List Ent) (w : World) (hn : es.length ≤ 1000000) (hb : EntsAt w b es) : Calls Try.prog 17 #[b] w fun e w' => e = .returned (.int .i64 (checkV es)) ∧ Below w.heap.size w w' := by
  obtain ⟨A0, c0, rfl⟩ := hb.form
  have HB := Lib.hid hb
  clear hb
  go_enter Try.func17, Try.ntmps17
  go_wp2_with fail
  go_loopw [7] (fun i wr => ∃ k : Nat, k ≤ es.length ∧ i = .int .i64 k ∧ Below w.heap.size w wr ∧ Hid (okFrom (prevK es k) (es.drop k) = okFrom none es)) (fun i _ => es.length - (intOf i).toNat)
  case atStart => exact ⟨0, Nat.zero_le _, rfl, Below.refl _ _, Lib.hid rfl⟩
  case round =>
    obtain ⟨k, hk, rfl, hbw, H⟩ := hrel
    by_cases hlt : k < es.length
    · obtain ⟨b, off, e, x, rfl, he, hd, hc0, hc1, hvs⟩ := (HB.out.block hbw).at hlt
      obtain ⟨Ax, cx, rfl⟩ := hvs.form
      rw [List.length_map] at hc1
      have hstep := H.out
      rw [hd] at hstep
      have hsz := hbw.size
      by_cases h0 : e.vs = []
      · have HV := Lib.hid (show checkV es = 2 by unfold checkV; rw [← hstep, okFrom_bad (.inl h0)]; rfl)
        rw [h0] at hc1
        simp only [List.length_nil] at hc1
        clear hstep h0 hd hvs H he
        go_wp2_with fail
        go_quiet (fail)
        go_wp2
        go_ret
        exact ⟨by rw [HV.out]; rfl, below_drewN (hbw.alloc hsz _) _⟩
      · have hlen : ((e.vs.length : Int) == 0) = false := by
          have : e.vs.length ≠ 0 := fun h => h0 (List.eq_nil_of_length_eq_zero h)
          simp; omega
        obtain ⟨n, hn⟩ : ∃ n, e.vs.length = n := ⟨_, rfl⟩
        rw [hn] at hc1 hlen
        clear hn
        by_cases hk0 : k = 0
        · subst hk0
          simp only [Nat.zero_mul, Nat.add_zero] at hc0 hc1
          have HS := Lib.hid (show okFrom (prevK es (0 + 1)) (es.drop (0 + 1)) = okFrom none es by rw [← hstep, okFrom_good h0 (by simp [prevK])]; simp [prevK, he])
          clear hstep h0 hd hvs H he
          go_wp2_with fail
          go_quiet (fail)
          go_wp2
          go_roundw
          case rel => exact ⟨0 + 1, by omega, rfl, below_drewN (hbw.alloc hsz _) _, HS⟩
          case measure => simp [intOf]; omega
        · obtain ⟨m, hm⟩ : ∃ m, k = m + 1 := ⟨k - 1, by omega⟩
          obtain ⟨b', off', e', x', hA', he', _, hp0, _, _⟩ := (HB.out.block hbw).at (i := m) (by omega)
          injection hA' with hA'
          injection hA' with hb' ho' _
          subst hb' ho'
          have hp1 : ∀ o, (wr.alloc o).cell? ⟨b, off + m * 2, none⟩ = some (.string (BA e'.key)) := fun o => below_cell ((Below.refl _ wr).alloc (Nat.le_refl _) o) hp0
          have hpk : prevK es k = some e'.key := by subst hm; simp [prevK, he']
          rw [hpk] at hstep
          have q1 : IntKind.i64.wrap ((k : Int) - 1) = (m : Int) := by rw [IntWalk.i64_in _ (by omega)]; omega
          have q2 : (0 : Int) ≤ (m : Int) ∧ (m : Int) < (es.length : Int) := by omega
          have hk1 : decide (0 < k) = true := by simp; omega
          by_cases hlt2 : e'.key < e.key
          · have HS := Lib.hid (show okFrom (prevK es (k + 1)) (es.drop (k + 1)) = okFrom none es by rw [← hstep, okFrom_good h0 (fun p hp => by cases hp; exact hlt2)]; simp [prevK, he])
            have ht1 : Op.bytesLess e.key e'.key = false := by rw [bytesLess_eq]; simp [lt_asy hlt2]
            have ht2 : (e.key == e'.key) = false := by simp [(lt_ne hlt2).symm]
            clear hstep h0 hd hvs H he hlt2 he' hpk hm
            go_wp2_with fail
            go_quiet (fail)
            clear q1 q2
            go_wp2
            go_roundw
            case rel => exact ⟨k + 1, by omega, by go_num, below_drewN (hbw.alloc hsz _) _, HS⟩
            case measure => simp [intOf]; omega
          · have HV := Lib.hid (show checkV es = 2 by unfold checkV; rw [← hstep, okFrom_bad (.inr ⟨_, rfl, hlt2⟩)]; rfl)
            have hcase : Op.bytesLess e.key e'.key = true ∨ (Op.bytesLess e.key e'.key = false ∧ (e.key == e'.key) = true) := by
              rw [bytesLess_eq]
              rcases lt_tri e.key e'.key with h | h | h
              · exact .inl (by simp [h])
              · exact .inr ⟨by simp [h, lt_irr], by simp [h]⟩
              · exact absurd h hlt2
            clear hstep h0 hd hvs H he hlt2 he' hpk hm
            rcases hcase with ht | ⟨ht1, ht2⟩
            all_goals (
              go_wp2_with fail
              go_quiet (fail)
              clear q1 q2
              go_wp2
              go_ret
              exact ⟨by rw [HV.out]; rfl, below_drewN (hbw.alloc hsz _) _⟩)
    · obtain rfl : k = es.length := by omega
      have HV := Lib.hid (show checkV es = 0 by
        unfold checkV
        rw [← H.out, List.drop_of_length_le (Nat.le_refl _)]
        simp [okFrom])
      clear H
      go_wp2
      go_ret
      exact ⟨by rw [HV.out]; rfl, hbw⟩
end Go.Proofs.Ytdaokkajbooiaaa
end
