/- Listing: the chapter's entries. -/
import Derived.Test.YtahkcfhiecfgeaaProg
import Derived.Test.YtahkcfhiecfgeaaSp20
namespace Go.Proofs.Ytahkcfhiecfgeaa
open Go.RowKit
set_option linter.unusedVariables false
set_option linter.unusedSimpArgs false
theorem flatten_at (sz : Nat) : ∀ (rows : List (List Value)) (i j : Nat) (row : List Value) (x : Value), (∀ r ∈ rows, r.length = sz) → rows[i]? = some row → row[j]? = some x → rows.flatten[i * sz + j]? = some x
  | [], i, j, row, x, _, h, _ => by simp at h
  | r :: rs, 0, j, row, x, hl, h, hx => by
    simp only [List.getElem?_cons_zero, Option.some.injEq] at h
    subst h
    rw [List.flatten_cons, List.getElem?_append_left (by have := (List.getElem?_eq_some_iff.1 hx).1; omega)]
    simpa using hx
  | r :: rs, i + 1, j, row, x, hl, h, hx => by
    have h1 : r.length = sz := hl r (List.mem_cons_self ..)
    have hm : (i + 1) * sz = i * sz + sz := by rw [Nat.add_mul, Nat.one_mul]
    rw [List.flatten_cons, List.getElem?_append_right (by omega), h1, show (i + 1) * sz + j - sz = i * sz + j by omega]
    exact flatten_at sz rs i j row x (fun q hq => hl q (List.mem_cons_of_mem _ hq)) (by simpa using h) hx
theorem srcR_row {W : World} {b sz : Nat} {rows : List (List Value)} {t : TypeId} (h : W.heap[b]? = some (.cells rows.flatten.toArray t (0, 0))) (hl : ∀ r ∈ rows, r.length = sz) : SrcR W (.slice (some ⟨b, 0, none⟩) rows.length rows.length) sz rows := by
  refine .inr ⟨b, 0, rows.length, rfl, Nat.le_refl _, fun i row hi j x hj => ?_⟩
  rw [Nat.zero_add, cell_of_row _ _ _ _ _ (0, 0) h]
  simpa using flatten_at sz rows i j row x hl hi hj
theorem SrcR.alloc {W : World} {v : Value} {sz : Nat} {rows : List (List Value)} (h : SrcR W v sz rows) (o : Obj) : SrcR (W.alloc o) v sz rows := h.block ((Below.refl _ W).alloc (Nat.le_refl _) o)
theorem bt {A B C : World} (h : Below A.heap.size A B) (k : Below B.heap.size B C) : Below A.heap.size A C := h.trans (k.mono h.size)
theorem ba (A : World) (o : Obj) : Below A.heap.size A (A.alloc o) := (Below.refl _ A).alloc (Nat.le_refl _) o
def ver (id : Bs) : Ver := ⟨id, 0, false, 0, []⟩
theorem infoV : (Try.prog.info? 37).map (·.size) = some 5 := by kernel_rfl
set_option maxRecDepth 10000 in
set_option maxHeartbeats 1000000 in
theorem v_any (id : Bs) (w : World) : Calls Try.prog 21 #[.string (BA id)] w fun e w' => e = .returned (.agg #[.string (BA id), .int .i64 0, .bool false, .int .i64 0, .string ⟨#[]⟩]) ∧ Below w.heap.size w w' := by
  have hrow := heap_alloc_new w (.cells #[.string ⟨#[]⟩, .int .i64 0, .bool false, .int .i64 0, .string ⟨#[]⟩] 37)
  have hb : Below w.heap.size w (w.alloc (.cells #[.string ⟨#[]⟩, .int .i64 0, .bool false, .int .i64 0, .string ⟨#[]⟩] 37)) := (Below.refl _ w).alloc (Nat.le_refl _) _
  go_enter Try.func21, Try.ntmps21
  go_wp2_with (refine wpList_store_row rfl 37 _ _ rfl w.heap.size #[.string (BA id), .int .i64 0, .bool false, .int .i64 0, .string ⟨#[]⟩] rfl rfl 37 _ hrow infoV rfl (by simp [Value.oneCell']) ?_)
  exact bodyPost_ret (v := .agg #[.string (BA id), .int .i64 0, .bool false, .int .i64 0, .string ⟨#[]⟩]) (results_cell_row (show Try.f21.results = #[.cell 2 37] from by kernel_rfl) _ _ w.heap.size 37 #[.string (BA id), .int .i64 0, .bool false, .int .i64 0, .string ⟨#[]⟩] (0, 0) _ rfl (setRow_heap _ _ _ _ _ _ hrow) Try.underlying37 rfl infoV) rfl ⟨rfl, below_setRow hb (Nat.le_refl _) _⟩
def fourE : List Ent := [⟨([97] : List UInt8), [ver ([118, 49] : List UInt8)]⟩, ⟨([98, 47, 99] : List UInt8), [ver ([118, 50] : List UInt8)]⟩, ⟨([98, 47, 100] : List UInt8), [ver ([118, 51] : List UInt8), ver ([118, 52] : List UInt8)]⟩, ⟨([101] : List UInt8), [⟨([109, 53] : List UInt8), 0, true, 0, []⟩, ver ([118, 54] : List UInt8)]⟩]
set_option maxRecDepth 10000 in
set_option maxHeartbeats 1000000 in
theorem four_any (w : World) : Calls Try.prog 22 #[] w fun e w' => ∃ v, e = .returned v ∧ EntsAt w' v fourE ∧ Below w.heap.size w w' := by
  have h1 := fun W => v_any ([118, 49] : List UInt8) W
  have h2 := fun W => v_any ([118, 50] : List UInt8) W
  have h3 := fun W => v_any ([118, 51] : List UInt8) W
  have h4 := fun W => v_any ([118, 52] : List UInt8) W
  have h6 := fun W => v_any ([118, 54] : List UInt8) W
  go_enter Try.func22, Try.ntmps22
  go_wp2_with first | (go_at_call 21; refine (h1 _).mono ?_; clear h1; rintro e w1 ⟨rfl, b1⟩) | (go_at_call 21; refine (h2 _).mono ?_; clear h2; rintro e w2 ⟨rfl, b2⟩) | (go_at_call 21; refine (h3 _).mono ?_; clear h3; rintro e w3 ⟨rfl, b3⟩) | (go_at_call 21; refine (h4 _).mono ?_; clear h4; rintro e w4 ⟨rfl, b4⟩) | (go_at_call 21; refine (h6 _).mono ?_; clear h6; rintro e w6 ⟨rfl, b6⟩)
  have B6 := bt (ba w6 (.cells #[.string ⟨#[109, 53]⟩, .int .i64 0, .bool true, .int .i64 0, .string ⟨#[]⟩, .string (BA [118, 54]), .int .i64 0, .bool false, .int .i64 0, .string ⟨#[]⟩] 37)) (ba _ (.cells #[.string ⟨#[97]⟩, .slice (some ⟨w1.heap.size, 0, none⟩) 1 1, .string ⟨#[98, 47, 99]⟩, .slice (some ⟨w2.heap.size, 0, none⟩) 1 1, .string ⟨#[98, 47, 100]⟩, .slice (some ⟨w4.heap.size, 0, none⟩) 2 2, .string ⟨#[101]⟩, .slice (some ⟨w6.heap.size, 0, none⟩) 2 2] 47))
  have B4 := bt b6 B6
  have B3 := bt b4 (bt (ba w4 _) B4)
  have B2 := bt b3 B3
  have B1 := bt b2 (bt (ba w2 _) B2)
  have s1 : SrcR _ (.slice (some ⟨w1.heap.size, 0, none⟩) 1 1) 5 [verC (ver ([118, 49] : List UInt8))] := (srcR_row (rows := [verC (ver ([118, 49] : List UInt8))]) (heap_alloc_new w1 _) (by simp [verC])).block B1
  have s2 : SrcR _ (.slice (some ⟨w2.heap.size, 0, none⟩) 1 1) 5 [verC (ver ([118, 50] : List UInt8))] := (srcR_row (rows := [verC (ver ([118, 50] : List UInt8))]) (heap_alloc_new w2 _) (by simp [verC])).block B2
  have s4 : SrcR _ (.slice (some ⟨w4.heap.size, 0, none⟩) 2 2) 5 [verC (ver ([118, 51] : List UInt8)), verC (ver ([118, 52] : List UInt8))] := (srcR_row (rows := [verC (ver ([118, 51] : List UInt8)), verC (ver ([118, 52] : List UInt8))]) (heap_alloc_new w4 _) (by simp [verC])).block B4
  have s6 : SrcR _ (.slice (some ⟨w6.heap.size, 0, none⟩) 2 2) 5 [verC ⟨([109, 53] : List UInt8), 0, true, 0, []⟩, verC (ver ([118, 54] : List UInt8))] := (srcR_row (t := 37) (rows := [verC ⟨([109, 53] : List UInt8), 0, true, 0, []⟩, verC (ver ([118, 54] : List UInt8))]) (heap_alloc_new w6 _) (by simp [verC])).block (ba _ (.cells #[.string ⟨#[97]⟩, .slice (some ⟨w1.heap.size, 0, none⟩) 1 1, .string ⟨#[98, 47, 99]⟩, .slice (some ⟨w2.heap.size, 0, none⟩) 1 1, .string ⟨#[98, 47, 100]⟩, .slice (some ⟨w4.heap.size, 0, none⟩) 2 2, .string ⟨#[101]⟩, .slice (some ⟨w6.heap.size, 0, none⟩) 2 2] 47))
  go_ret
  refine ⟨_, rfl, ⟨[.slice (some ⟨w1.heap.size, 0, none⟩) 1 1, .slice (some ⟨w2.heap.size, 0, none⟩) 1 1, .slice (some ⟨w4.heap.size, 0, none⟩) 2 2, .slice (some ⟨w6.heap.size, 0, none⟩) 2 2], rfl, ?_, fun i e x he hx => ?_⟩, bt b1 (bt (ba w1 _) B1)⟩
  · exact srcR_row (rows := [[.string (BA ([97] : List UInt8)), .slice (some ⟨w1.heap.size, 0, none⟩) 1 1], [.string (BA ([98, 47, 99] : List UInt8)), .slice (some ⟨w2.heap.size, 0, none⟩) 1 1], [.string (BA ([98, 47, 100] : List UInt8)), .slice (some ⟨w4.heap.size, 0, none⟩) 2 2], [.string (BA ([101] : List UInt8)), .slice (some ⟨w6.heap.size, 0, none⟩) 2 2]]) (by have := heap_alloc_new (w6.alloc (.cells #[.string ⟨#[109, 53]⟩, .int .i64 0, .bool true, .int .i64 0, .string ⟨#[]⟩, .string (BA [118, 54]), .int .i64 0, .bool false, .int .i64 0, .string ⟨#[]⟩] 37)) (.cells #[.string ⟨#[97]⟩, .slice (some ⟨w1.heap.size, 0, none⟩) 1 1, .string ⟨#[98, 47, 99]⟩, .slice (some ⟨w2.heap.size, 0, none⟩) 1 1, .string ⟨#[98, 47, 100]⟩, .slice (some ⟨w4.heap.size, 0, none⟩) 2 2, .string ⟨#[101]⟩, .slice (some ⟨w6.heap.size, 0, none⟩) 2 2] 47); rw [World.size_alloc] at this; exact this) (by simp)
  · rcases i with _ | _ | _ | _ | i
    · simp [fourE] at he hx; subst he hx; exact s1
    · simp [fourE] at he hx; subst he hx; exact s2
    · simp [fourE] at he hx; subst he hx; exact s4
    · simp [fourE] at he hx; subst he hx; exact s6
    · simp [fourE] at he
end Go.Proofs.Ytahkcfhiecfgeaa
