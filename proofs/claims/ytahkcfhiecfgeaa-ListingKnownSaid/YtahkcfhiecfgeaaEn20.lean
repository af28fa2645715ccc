/- Listing: entries, versions, items in memory. -/
import Derived.Test.YtahkcfhiecfgeaaProg
import Derived.Test.YtahkcfhiecfgeaaBase
import Derived.Test.YtahkcfhiecfgeaaPush
import Derived.Test.YtahkcfhiecfgeaaLr20
import Derived.WalkLawsBesides
namespace Go.Proofs.Ytahkcfhiecfgeaa
open Go.RowKit
set_option linter.unusedVariables false
set_option linter.unusedSimpArgs false
/-- A slice of rows of so many cells each. -/
def SrcR (w : World) (v : Value) (sz : Nat) (rows : List (List Value)) : Prop := (∃ A c, v = .slice A 0 c ∧ (A = none → c = 0) ∧ rows = []) ∨ ∃ b off c, v = .slice (some ⟨b, off, none⟩) rows.length c ∧ rows.length ≤ c ∧ ∀ i row, rows[i]? = some row → ∀ j x, row[j]? = some x → w.cell? ⟨b, off + i * sz + j, none⟩ = some x
theorem SrcR.block {w w' : World} {v : Value} {sz : Nat} {rows : List (List Value)} (h : SrcR w v sz rows) (hb : Below w.heap.size w w') : SrcR w' v sz rows := by
  rcases h with h | ⟨b, off, c, hv, hl, hc⟩
  · exact .inl h
  · exact .inr ⟨b, off, c, hv, hl, fun i row hi j x hj => below_cell hb (hc i row hi j x hj)⟩
theorem SrcR.form {w : World} {v : Value} {sz : Nat} {rows : List (List Value)} (h : SrcR w v sz rows) : ∃ A c, v = .slice A rows.length c := by
  rcases h with ⟨A, c, rfl, _, rfl⟩ | ⟨b, off, c, rfl, _, _⟩
  · exact ⟨A, c, rfl⟩
  · exact ⟨_, c, rfl⟩
theorem SrcR.at {w : World} {A : Option Addr} {n c sz : Nat} {rows : List (List Value)} (h : SrcR w (.slice A n c) sz rows) {i : Nat} {row : List Value} (hi : rows[i]? = some row) : ∃ b off, A = some ⟨b, off, none⟩ ∧ n ≤ c ∧ ∀ j x, row[j]? = some x → w.cell? ⟨b, off + i * sz + j, none⟩ = some x := by
  rcases h with ⟨A', c', h, _, rfl⟩ | ⟨b, off, c', h, hl, hc⟩
  · simp at hi
  · injection h with h1 h2 h3
    subst h2 h3
    exact ⟨b, off, h1, hl, hc i row hi⟩
abbrev BA (b : Bs) : ByteArray := ⟨b.toArray⟩
def verC (v : Ver) : List Value := [.string (BA v.id), .int .i64 v.time, .bool v.mark, .int .i64 v.size, .string (BA v.etag)]
def itmC (x : Itm) : List Value := [.string (BA x.name), .bool x.common, .string (BA x.v.id), .int .i64 x.v.time, .bool x.v.mark, .int .i64 x.v.size, .string (BA x.v.etag), .bool x.latest]
def EntsAt (w : World) (v : Value) (es : List Ent) : Prop := ∃ vss : List Value, vss.length = es.length ∧ SrcR w v 2 (List.zipWith (fun e x => [.string (BA e.key), x]) es vss) ∧ ∀ (i : Nat) (e : Ent) (x : Value), es[i]? = some e → vss[i]? = some x → SrcR w x 5 (e.vs.map verC)
theorem EntsAt.block {w w' : World} {v : Value} {es : List Ent} (h : EntsAt w v es) (hb : Below w.heap.size w w') : EntsAt w' v es := by
  obtain ⟨vss, h1, h2, h3⟩ := h
  exact ⟨vss, h1, h2.block hb, fun i e x he hx => (h3 i e x he hx).block hb⟩
theorem EntsAt.form {w : World} {v : Value} {es : List Ent} (h : EntsAt w v es) : ∃ A c, v = .slice A es.length c := by
  obtain ⟨vss, h1, h2, h3⟩ := h
  obtain ⟨A, c, h⟩ := h2.form
  rw [List.length_zipWith, h1, Nat.min_self] at h
  exact ⟨A, c, h⟩
theorem EntsAt.at {w : World} {A : Option Addr} {n c : Nat} {es : List Ent} (h : EntsAt w (.slice A n c) es) {i : Nat} (hi : i < es.length) : ∃ b off e x, A = some ⟨b, off, none⟩ ∧ es[i]? = some e ∧ es.drop i = e :: es.drop (i + 1) ∧
    w.cell? ⟨b, off + i * 2, none⟩ = some (.string (BA e.key)) ∧ w.cell? ⟨b, off + i * 2 + 1, none⟩ = some x ∧ SrcR w x 5 (e.vs.map verC) := by
  obtain ⟨vss, h1, h2, h3⟩ := h
  obtain ⟨e, he, hd⟩ := next_elem es i hi
  obtain ⟨x, hx, _⟩ := next_elem vss i (by omega)
  obtain ⟨b, off, hA, _, hc⟩ := h2.at (i := i) (row := [.string (BA e.key), x]) (by simp [List.getElem?_zipWith, he, hx])
  exact ⟨b, off, e, x, hA, he, hd, hc 0 _ rfl, hc 1 _ rfl, h3 i e x he hx⟩
theorem ba_toList (b : Bs) : (BA b).toList = b := by rw [bs_toList]
theorem lss_ba (a b : ByteArray) : Op.bytesLess a.toList b.toList = decide (a.data.toList < b.data.toList) := by rw [bytesLess_eq, bs_toList, bs_toList]
end Go.Proofs.Ytahkcfhiecfgeaa
