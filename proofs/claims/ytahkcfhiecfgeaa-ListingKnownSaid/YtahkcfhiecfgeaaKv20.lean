/- Listing: Keys and Versions. -/
import Derived.Test.YtahkcfhiecfgeaaProg
import Derived.Test.YtahkcfhiecfgeaaPw20
import Derived.Laws.CopyOwn
namespace Go.Proofs.Ytahkcfhiecfgeaa
open Go.RowKit
set_option linter.unusedVariables false
set_option linter.unusedSimpArgs false
theorem PageAt.mono {n m : Nat} {W : World} {pv : Value} {g : Pg} (h : PageAt m W pv g) (hn : n ≤ m) : PageAt n W pv g := by
  obtain ⟨sl, h1, h2, h3⟩ := h
  refine ⟨sl, h1, h2, ?_⟩
  rcases h3 with h3 | ⟨a, b, c, d, e, f⟩
  · exact .inl h3
  · exact .inr ⟨a, b, c, d, Nat.le_trans hn e, f⟩
theorem PageAt.block {n : Nat} {W W' : World} {pv : Value} {g : Pg} (h : PageAt n W pv g) (hb : Below W.heap.size W W') : PageAt n W' pv g := by
  obtain ⟨sl, h1, h2, h3⟩ := h
  refine ⟨sl, h1, h2, ?_⟩
  rcases h3 with h3 | ⟨a, b, c, d, e, f, k⟩
  · exact .inl h3
  · exact .inr ⟨a, b, c, d, e, (hb.block _ (Array.getElem?_eq_some_iff.1 f).1).trans f, k⟩
theorem own_form {W : World} {n₀ : Nat} {t : TypeId} {k : Nat} {sl : Value} {m : Nat} {xs : List Value} (h : W.ownsRow n₀ t k sl m xs) : ∃ A c, sl = .slice A m c := by
  rcases h.2 with ⟨rfl, h0⟩ | ⟨g, cap, cur, rfl, _⟩
  · exact ⟨_, _, by rw [h0]⟩
  · exact ⟨_, _, rfl⟩
set_option maxRecDepth 10000 in
set_option maxHeartbeats 1000000 in
theorem keys_any (p d after : ByteArray) (most : Int) (es : List Ent) (v : Value) (w : World) (hE : EntsAt w v es) (hel : es.length ≤ 1000000) (hkey : ∀ e ∈ es, e.key.length ≤ 1000000 ∧ e.vs.length ≤ 1000000) (hMax : ∃ m, w.cell? ⟨0, 0, none⟩ = some (.int .i64 m)) (hps : p.size ≤ 1000000) (hds : d.size ≤ 1000000) (has : after.size ≤ 1000000) :
    Calls Try.prog 11 #[v, .string p, .string d, .string after, .int .i64 most] w fun e w' => ∃ pv, e = .returned (.tuple #[pv, .int .i64 (pageV false es p.data.toList d.data.toList after.data.toList [] most).2]) ∧ PageAt w.heap.size w' pv (pageV false es p.data.toList d.data.toList after.data.toList [] most).1 ∧ Below w.heap.size w w' := by
  obtain ⟨A0, c0, rfl⟩ := hE.form
  obtain ⟨m0, hm0⟩ := hMax
  have hblk : Below w.heap.size w (w.alloc (.cells #[.slice none 0 0, .bool false, .string ⟨#[]⟩, .string ⟨#[]⟩] 28)) := (Below.refl _ w).alloc (Nat.le_refl _) _
  have hrow := heap_alloc_new w (.cells #[.slice none 0 0, .bool false, .string ⟨#[]⟩, .string ⟨#[]⟩] 28)
  have hC := (callsIn_wide (n := 6)).1 (page_in 6 (by omega) p d after ⟨#[]⟩ false most es _ _ (hE.block hblk) hel hkey ⟨m0, (hblk.cell (p := ⟨0, 0, none⟩) (cell_lt hm0)).trans hm0⟩ hps hds has (show (⟨#[]⟩ : ByteArray).size ≤ 1000000 by decide))
  obtain ⟨R, hR⟩ : ∃ R, pageV false es p.data.toList d.data.toList after.data.toList [] most = R := ⟨_, rfl⟩
  have hR' : pageV false es p.data.toList d.data.toList after.data.toList (⟨#[]⟩ : ByteArray).data.toList most = R := hR
  rw [hR'] at hC
  clear hR'
  rw [hR]
  obtain ⟨⟨items, more, next, ver⟩, en⟩ := R
  clear hE hR hm0
  go_enter Try.func11, Try.ntmps11
  go_wp2_with first | (go_at_call 28; refine hC.mono ?_; clear hC; rintro e w2 ⟨pv, rfl, ⟨sl, rfl, ho⟩, hb⟩; obtain ⟨As, cs, rfl⟩ := own_form ho; have hr2 := (hb.block _ (Array.getElem?_eq_some_iff.1 hrow).1).trans hrow) | (refine wpList_store_row rfl 28 _ _ rfl w.heap.size #[.slice As items.length cs, .bool more, .string (BA next), .string (BA ver)] rfl rfl 28 _ hr2 infoP rfl (by simp [Value.oneCell']) ?_)
  have hbw := hblk.trans (hb.mono hblk.size)
  refine bodyPost_ret (v := .tuple #[.agg #[.slice As items.length cs, .bool more, .string (BA next), .string (BA ver)], .int .i64 en]) (results_row_tmp (show Try.f11.results = #[.cell 10 28, .tmp 11] from by kernel_rfl) _ _ w.heap.size 28 #[.slice As items.length cs, .bool more, .string (BA next), .string (BA ver)] (0, 0) _ (.int .i64 en) rfl rfl (setRow_heap _ _ _ _ _ _ hr2) Try.underlying28 rfl infoP) rfl ?_
  refine ⟨_, rfl, ⟨_, rfl, ?_⟩, below_setRow hbw (Nat.le_refl _) _⟩
  have h1 : PageAt w.heap.size w2 (.agg #[.slice As items.length cs, .bool more, .string (BA next), .string (BA ver)]) ⟨items, more, next, ver⟩ := PageAt.mono ⟨_, rfl, ho⟩ (by simp)
  obtain ⟨sl, h2, h3⟩ := h1
  cases h2
  exact h3.kept (grownBy_setRow w2 w.heap.size _) (.inr (row_not_row hr2 (by decide) h3).symm)
set_option maxRecDepth 10000 in
set_option maxHeartbeats 1000000 in
theorem versions_any (p d after version : ByteArray) (most : Int) (es : List Ent) (v : Value) (w : World) (hE : EntsAt w v es) (hel : es.length ≤ 1000000) (hkey : ∀ e ∈ es, e.key.length ≤ 1000000 ∧ e.vs.length ≤ 1000000) (hMax : ∃ m, w.cell? ⟨0, 0, none⟩ = some (.int .i64 m)) (hps : p.size ≤ 1000000) (hds : d.size ≤ 1000000) (has : after.size ≤ 1000000) (hvs : version.size ≤ 1000000) :
    Calls Try.prog 13 #[v, .string p, .string d, .string after, .string version, .int .i64 most] w fun e w' => ∃ pv, e = .returned (.tuple #[pv, .int .i64 (pageV true es p.data.toList d.data.toList after.data.toList version.data.toList most).2]) ∧ PageAt w.heap.size w' pv (pageV true es p.data.toList d.data.toList after.data.toList version.data.toList most).1 ∧ Below w.heap.size w w' := by
  obtain ⟨A0, c0, rfl⟩ := hE.form
  obtain ⟨m0, hm0⟩ := hMax
  have hblk : Below w.heap.size w (w.alloc (.cells #[.slice none 0 0, .bool false, .string ⟨#[]⟩, .string ⟨#[]⟩] 28)) := (Below.refl _ w).alloc (Nat.le_refl _) _
  have hrow := heap_alloc_new w (.cells #[.slice none 0 0, .bool false, .string ⟨#[]⟩, .string ⟨#[]⟩] 28)
  have hC := (callsIn_wide (n := 6)).1 (page_in 6 (by omega) p d after version true most es _ _ (hE.block hblk) hel hkey ⟨m0, (hblk.cell (p := ⟨0, 0, none⟩) (cell_lt hm0)).trans hm0⟩ hps hds has hvs)
  obtain ⟨R, hR⟩ : ∃ R, pageV true es p.data.toList d.data.toList after.data.toList version.data.toList most = R := ⟨_, rfl⟩
  rw [hR] at hC
  rw [hR]
  obtain ⟨⟨items, more, next, ver⟩, en⟩ := R
  clear hE hR hm0
  go_enter Try.func13, Try.ntmps13
  go_wp2_with first | (go_at_call 28; refine hC.mono ?_; clear hC; rintro e w2 ⟨pv, rfl, ⟨sl, rfl, ho⟩, hb⟩; obtain ⟨As, cs, rfl⟩ := own_form ho; have hr2 := (hb.block _ (Array.getElem?_eq_some_iff.1 hrow).1).trans hrow) | (refine wpList_store_row rfl 28 _ _ rfl w.heap.size #[.slice As items.length cs, .bool more, .string (BA next), .string (BA ver)] rfl rfl 28 _ hr2 infoP rfl (by simp [Value.oneCell']) ?_)
  have hbw := hblk.trans (hb.mono hblk.size)
  refine bodyPost_ret (v := .tuple #[.agg #[.slice As items.length cs, .bool more, .string (BA next), .string (BA ver)], .int .i64 en]) (results_row_tmp (show Try.f13.results = #[.cell 12 28, .tmp 13] from by kernel_rfl) _ _ w.heap.size 28 #[.slice As items.length cs, .bool more, .string (BA next), .string (BA ver)] (0, 0) _ (.int .i64 en) rfl rfl (setRow_heap _ _ _ _ _ _ hr2) Try.underlying28 rfl infoP) rfl ?_
  refine ⟨_, rfl, ⟨_, rfl, ?_⟩, below_setRow hbw (Nat.le_refl _) _⟩
  have h1 : PageAt w.heap.size w2 (.agg #[.slice As items.length cs, .bool more, .string (BA next), .string (BA ver)]) ⟨items, more, next, ver⟩ := PageAt.mono ⟨_, rfl, ho⟩ (by simp)
  obtain ⟨sl, h2, h3⟩ := h1
  cases h2
  exact h3.kept (grownBy_setRow w2 w.heap.size _) (.inr (row_not_row hr2 (by decide) h3).symm)
end Go.Proofs.Ytahkcfhiecfgeaa
