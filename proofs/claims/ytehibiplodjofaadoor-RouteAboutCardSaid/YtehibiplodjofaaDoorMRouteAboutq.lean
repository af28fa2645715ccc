/- Texts of this proof, put together: H12. -/
import Derived.Test.YtehibiplodjofaaDoorProg
import Derived.Test.YtehibiplodjofaaDoorMRouteAbouto
import Derived.Test.YtehibiplodjofaaDoorMRouteAboutp
import Derived.BigRegion
import Derived.BigQuiet
import Derived.Deep.RegionHeld3
import Derived.Deep.MidRow
section
/- The walk of digest.Sum. -/
namespace Go.Proofs.YtehibiplodjofaaDoor
open Go.RowKit
set_option linter.unusedVariables false
set_option linter.unusedSimpArgs false
theorem blocks_app (s : S8) (l r : List UInt8) : ∀ j, 64 * j ≤ l.length → blocks s (l ++ r) j = blocks s l j
  | 0, _ => rfl
  | j + 1, h => by
    rw [blocks_succ, blocks_succ, blocks_app s l r j (by omega), List.drop_append_of_le_length (by omega), blockS_app _ _ _ _ (by simp; omega)]
theorem msg_drop (l : List UInt8) (j : Nat) (h : 64 * j ≤ l.length) : (msg l).drop (64 * j) = l.drop (64 * j) ++ ([128] ++ List.replicate (zpad l.length) 0 ++ eightL (8 * l.length) 8) := by
  unfold msg
  rw [List.append_assoc, List.append_assoc, List.drop_append_of_le_length h, List.append_assoc]
structure SumQ (l : List UInt8) (w : World) (z : Array Value) (pk : Nat) (s : S8) (wr : World) : Prop where
  below : Below w.heap.size w wr
  size : pk < wr.heap.size
  row : Row wr w.heap.size z 97
  arr : Arr wr (w.heap.size + 1) s.at 8
  k : Row wr pk shaKc 106
theorem SumQ.drew {l : List UInt8} {w : World} {z : Array Value} {pk : Nat} {s : S8} {wr : World} (h : SumQ l w z pk s wr) (n : Nat) : SumQ l w z pk s (wr.drewN n) :=
  ⟨below_drewN h.below n, h.size, h.row, h.arr.drewN n, h.k⟩
theorem SumQ.past {l : List UInt8} {w : World} {z : Array Value} {pk : Nat} {s : S8} {wr w7 : World} (h : SumQ l w z pk s wr) (hb : Below wr.heap.size wr w7) (h1 : w.heap.size + 1 < pk) : SumQ l w z pk s w7 := by
  have hz := hb.size
  have h2 := h.size
  have h3 := h.below.size
  exact ⟨h.below.trans (hb.mono (by omega)), by omega, h.row.below hb (by omega), h.arr.below (by omega) hb, h.k.below hb (by omega)⟩
theorem SumQ.set {l : List UInt8} {w : World} {z : Array Value} {pk : Nat} {s : S8} {wr : World} (h : SumQ l w z pk s wr) (h1 : w.heap.size + 1 < pk) (y : S8) : SumQ l w z pk y (setS wr (w.heap.size + 1) y) :=
  ⟨setS_below h.below (by omega) y, by rw [setS_size]; exact h.size, (setS_heap (by omega) y).trans h.row, setS_arr h.arr y, (setS_heap (by omega) y).trans h.k⟩
theorem SumQ.grown {l : List UInt8} {w : World} {z : Array Value} {pk : Nat} {s : S8} {wr w' : World} {row : Option Nat} (h : SumQ l w z pk s wr) (h1 : w.heap.size + 1 < pk) (hg : wr.grownBy w' row) (hr : ∀ k, row = some k → pk < k) : SumQ l w z pk s w' := by
  have h2 := h.size
  have h3 := hg.size
  exact ⟨h.below.grown hg (by omega) (fun k hk => by have := hr k hk; omega), by omega, h.row.grown hg (fun k hk => by have := hr k hk; omega), h.arr.ofBlock (hg.block _ (by omega) (fun e => by have := hr _ e.symm; omega)), h.k.grown hg hr⟩
theorem SumQ.alloc {l : List UInt8} {w : World} {z : Array Value} {pk : Nat} {s : S8} {wr : World} (h : SumQ l w z pk s wr) (h1 : w.heap.size + 1 < pk) (o : Obj) : SumQ l w z pk s (wr.alloc o) :=
  h.grown h1 (World.grownBy_alloc wr o none) (fun k hk => by cases hk)
def P2 (l : List UInt8) (w : World) (z : Array Value) (pk : Nat) (s : S8) (B n : Nat) (r : List UInt8) (v : Value) (wr : World) : Prop := ∃ k : Nat, k ≤ zpad n ∧ wr.ownsRow B 5 1 v (n + 1 + k) (Lib.byteCells (r ++ [128] ++ List.replicate k 0)) ∧ SumQ l w z pk s wr ∧ B ≤ wr.heap.size
def P3 (l : List UInt8) (w : World) (z : Array Value) (pk : Nat) (s : S8) (B m : Nat) (r : List UInt8) (v i : Value) (wr : World) : Prop := ∃ k : Nat, k ≤ 8 ∧ i = .int .i64 (56 - 8 * (k : Int)) ∧ wr.ownsRow B 5 1 v (m + k) (Lib.byteCells (r ++ eightL (8 * l.length) k)) ∧ SumQ l w z pk s wr ∧ B ≤ wr.heap.size
theorem ownsRow_last {w : World} {B n : Nat} {e : TypeId} {v : Value} {xs : List Value} {c d : Int} (h : w.ownsRow B e 1 v n (xs ++ [.int .u8 c])) (hc : c = d) : w.ownsRow B e 1 v n (xs ++ [.int .u8 d]) := by rw [← hc]; exact h
theorem ownsRow_cap {w : World} {B n m cap : Nat} {e : TypeId} {a : Addr} {xs : List Value} (h : w.ownsRow B e 1 (.slice (some a) m cap) n xs) : n ≤ cap := by
  rcases h.2 with ⟨h, _⟩ | ⟨g, c, cur, hv, _, _, h, _⟩
  · cases h
  · injection hv with _ _ h3
    omega
def P4 (l : List UInt8) (w : World) (z : Array Value) (pk : Nat) (s : S8) (B M g cap : Nat) (T : List UInt8) (v : Value) (wr : World) : Prop := ∃ i q o n1 c1 : Nat, Hid (q = 64 * i ∧ n1 + q = M ∧ c1 + q = cap ∧ (0 < n1 → o = q)) ∧ n1 ≤ 400200 ∧ v = .slice (some ⟨g, o, none⟩) n1 c1 ∧ wr.ownsRow B 5 1 (.slice (some ⟨g, 0, none⟩) M cap) M (Lib.byteCells T) ∧ SumQ l w z pk (blocks s T i) wr
theorem arr_range {w : World} {B : Nat} {s : S8} (h : Arr w B s.at 8) : w.rangeAt B 0 s.vals.toList := fun j v hv => by
  have hj : j < 8 := (List.getElem?_eq_some_iff.1 hv).1
  rw [Nat.zero_add]
  rcases (by omega : j = 0 ∨ j = 1 ∨ j = 2 ∨ j = 3 ∨ j = 4 ∨ j = 5 ∨ j = 6 ∨ j = 7) with rfl | rfl | rfl | rfl | rfl | rfl | rfl | rfl
  all_goals (rw [h.cell (by omega), ← hv]; try rfl)
theorem blocks_add (s : S8) (X : List UInt8) (j : Nat) : ∀ i, blocks s X (j + i) = blocks (blocks s X j) (X.drop (64 * j)) i
  | 0 => rfl
  | i + 1 => by
    rw [← Nat.add_assoc, blocks_succ, blocks_succ, blocks_add s X j i, List.drop_drop, show 64 * j + 64 * i = 64 * (j + i) by omega]
theorem sum_fin (l : List UInt8) {q j n M : Nat} {r L T : List UInt8} {s : S8} (hq : q ≤ l.length) (h1 : q = 64 * j) (h2 : l.drop q = r) (h3 : blocks sha0 l j = s) (h4 : l.length - q = n)
    (h5 : r ++ [128] ++ List.replicate (zpad n) 0 = L) (h6 : L ++ eightL (8 * l.length) 8 = T) (h7 : T.length = M) (h8 : M % 64 = 0) : blocks s T (M / 64) = shaS l := by
  have hz : zpad n = zpad l.length := by unfold zpad; omega
  have hT : (msg l).drop (64 * j) = T := by
    rw [msg_drop l j (by omega), ← h6, ← h5, ← h2, h1, hz]
    simp
  have hml : (msg l).length = 64 * j + M := by
    have := congrArg List.length hT
    rw [List.length_drop, h7] at this
    have : l.length ≤ (msg l).length := by unfold msg; simp
    omega
  have hs : blocks sha0 (msg l) j = s := by
    rw [← h3]
    unfold msg
    rw [List.append_assoc, List.append_assoc, blocks_app sha0 l _ j (by omega)]
  unfold shaS
  rw [hml, show (64 * j + M) / 64 = j + M / 64 by omega, blocks_add, hs, hT]
theorem DigR.four {w wo wy : World} {s : S8} {p k : Nat} (h : DigR w wo s p (4 * k + 1 + 1 + 1 + 1) wy) (hk : k < 8) : ∃ k' : Nat, k' ≤ 8 ∧ Value.int .i64 ((k : Int) + 1) = Value.int .i64 (k' : Int) ∧ DigR w wo s p (4 * k') wy := ⟨k + 1, by omega, rfl, h⟩
def P1 (l : List UInt8) (w : World) (z : Array Value) (pk : Nat) (v : Value) (wr : World) : Prop := ∃ j q : Nat, Hid (q = 64 * j) ∧ q ≤ l.length ∧ Src w v (Lib.byteCells (l.drop q)) ∧ SumQ l w z pk (blocks sha0 l j) wr
set_option maxRecDepth 100000 in
set_option maxHeartbeats 1000000 in
theorem pSum_any (b : Value) (l : List UInt8) (w : World) (hl : l.length ≤ 400000) (hb : Src w b (Lib.byteCells l)) : Calls Tryd.prog 52 #[b] w fun e w' => e = .returned (digV l) ∧ Below w.heap.size w w' := by
  obtain ⟨i0, hi, hz0, hz1, hz2⟩ := info_parts infoU8
  have hblen : (Lib.byteCells l).length = l.length := by simp [Lib.byteCells]
  obtain ⟨A0, c0, hbv⟩ := hb.form
  rw [hblen] at hbv
  subst hbv
  go_enter Tryd.func52, Tryd.ntmps52
  go_wp2_with fail
  refine (constants_any _).mono ?_
  rintro e w2 ⟨rfl, hb2⟩
  have hz2' := hb2.size
  simp only [World.size_alloc] at hz2'
  have harr0 : Arr ((w.alloc (.cells (Array.replicate 32 (.int .u8 0)) 97)).alloc (.cells sha0.vals 105)) (w.heap.size + 1) sha0.at 8 := by
    have h := arr_new (w.alloc (.cells (Array.replicate 32 (.int .u8 0)) 97)) sha0.vals 105 sha0.at 8 fun j hj => by
      rcases (by omega : j = 0 ∨ j = 1 ∨ j = 2 ∨ j = 3 ∨ j = 4 ∨ j = 5 ∨ j = 6 ∨ j = 7) with rfl | rfl | rfl | rfl | rfl | rfl | rfl | rfl <;> rfl
    rw [World.size_alloc] at h
    exact h
  have hQ : SumQ l w (Array.replicate 32 (.int .u8 0)) w2.heap.size (blocks sha0 l 0) (w2.alloc (.cells shaKc 106)) :=
    ⟨(((((Below.refl _ w).alloc (Nat.le_refl _) _).alloc (by simp) _).trans (hb2.mono (by simp; omega))).alloc (by omega) _), by simp, ((Row.below (show Row _ w.heap.size _ 97 from Row.alloc (heap_alloc_new w _) _) hb2 (by simp; omega)).alloc _), ((harr0.below (by simp) hb2).alloc (by omega) _), heap_alloc_new w2 _⟩
  have hlt12 : w.heap.size + 1 < w2.heap.size := by omega
  clear harr0 hb2 hz2'
  go_wp2_with (refine wpList_store_row rfl 106 _ _ rfl w2.heap.size shaKc rfl rfl 106 _ (heap_alloc_new _ _) (by kernel_rfl) (by kernel_rfl) (by kernel_rfl) ?_; rw [World.setRow_alloc_new])
  go_loopw [0] (fun v wr => P1 l w (Array.replicate 32 (.int .u8 0)) w2.heap.size v wr) (fun v _ => slLen v)
  case atStart => exact ⟨0, 0, Lib.hid rfl, by omega, hb, hQ⟩
  case round =>
    clear hQ
    obtain ⟨j, q, HQ, hq, hsrc, hQ⟩ := hrel
    obtain ⟨A1, c1, hv⟩ := hsrc.form
    have hdl : (Lib.byteCells (l.drop q)).length = l.length - q := by simp [Lib.byteCells]
    rw [hdl] at hv
    obtain ⟨n, hn⟩ : ∃ n, l.length - q = n := ⟨_, rfl⟩
    rw [hn] at hv hdl
    have HN := Lib.hid hn
    have hn1 : n ≤ 400000 := by omega
    clear hn
    subst hv
    by_cases hd : 64 ≤ n
    · obtain ⟨b1, off, rfl, hcell⟩ : ∃ b1 off, A1 = some ⟨b1, off, none⟩ ∧ ∀ i u, (l.drop q)[i]? = some u → w.cell? ⟨b1, off + i, none⟩ = some (.int .u8 (u.toNat : Int)) := by
        rcases hsrc with ⟨_, _, h1, _, h2⟩ | ⟨b1, off, c, h1, -, h2⟩
        · rw [h2] at hdl; simp at hdl; omega
        · injection h1 with h3 h4 h5
          exact ⟨b1, off, h3, fun i u hu => h2 i _ (by rw [Lib.byteCells, List.getElem?_map, hu]; rfl)⟩
      have hsn := Lib.hid (hsrc.drop hd)
      by_cases hc : c1 = 64
      all_goals (
        generalize hs : blocks sha0 l j = s at hQ
        have HS := Lib.hid hs
        clear hs
        go_wp2_with fail
        have h0 := hQ.arr.cell (j := 0) (by omega)
        have h1 := hQ.arr.cell (j := 1) (by omega)
        have h2 := hQ.arr.cell (j := 2) (by omega)
        have h3 := hQ.arr.cell (j := 3) (by omega)
        have h4 := hQ.arr.cell (j := 4) (by omega)
        have h5 := hQ.arr.cell (j := 5) (by omega)
        have h6 := hQ.arr.cell (j := 6) (by omega)
        have h7 := hQ.arr.cell (j := 7) (by omega)
        simp only [S8.at] at h0 h1 h2 h3 h4 h5 h6 h7
        have hK64 : (Tryd.prog.info? 106).map (·.size) = some (shaK.map U).length := by kernel_rfl
        have hU64 := Tryd.underlying106
        have hKr : wr.rangeAt w2.heap.size 0 (shaK.map U) := by
          have h := World.rangeAt_of_block hQ.k 0 64
          exact h
        have hKd : wr.drew.rangeAt w2.heap.size 0 (shaK.map U) := hKr
        have hl64 : 64 ≤ (l.drop q).length := by have := HN.out; rw [List.length_drop]; omega
        refine wp_region_noPanic ?_
        refine wp_region_held_drew (S := fun w' => w'.rangeAt w2.heap.size 0 (shaK.map U)) (by kernel_rfl) hKd (fun hHeld => ?_)
        refine wpAnyH_take (i := 1) (oi := _) (v := ?_) rfl (by kernel_rfl) (by kernel_rfl) (by kernel_rfl) (fun _ _ _ h => h) (Or.inl ⟨by rfl, ?_⟩) hHeld ?_
        rotate_left
        · intro w hSw
          go_simp
          try with_reducible rfl
        try simp only [List.getElem_toArray, List.getElem_cons_succ, List.getElem_cons_zero, Act.put, List.setIfInBounds_toArray, List.set_cons_zero, List.set_cons_succ]
        refine' wpAnyH_take (i := 2) (oi := _) (v := _) rfl (by kernel_rfl) (by kernel_rfl) (by kernel_rfl) (fun _ _ _ h => h) (yieldsIf_load_mid (by rfl) _ _ rfl _ _ rfl _ _ (fun w hSw => hSw) hU64 rfl hK64) hHeld ?_
        try simp only [List.getElem_toArray, List.getElem_cons_succ, List.getElem_cons_zero, Act.put, List.setIfInBounds_toArray, List.set_cons_zero, List.set_cons_succ]
        refine wpAnyH_take (i := 4) (oi := _) (v := ?_) rfl (by kernel_rfl) (by kernel_rfl) (by kernel_rfl) (fun _ _ _ h => h) (Or.inl ⟨by rfl, ?_⟩) hHeld ?_
        rotate_left
        · intro w hSw
          go_simp
          try with_reducible rfl
        try simp only [List.getElem_toArray, List.getElem_cons_succ, List.getElem_cons_zero, Act.put, List.setIfInBounds_toArray, List.set_cons_zero, List.set_cons_succ]
        refine wpAnyH_take (i := 5) (oi := _) (v := ?_) rfl (by kernel_rfl) (by kernel_rfl) (by kernel_rfl) (fun _ _ _ h => h) (Or.inl ⟨by rfl, ?_⟩) hHeld ?_
        rotate_left
        · intro w hSw
          go_simp
          try with_reducible rfl
        try simp only [List.getElem_toArray, List.getElem_cons_succ, List.getElem_cons_zero, Act.put, List.setIfInBounds_toArray, List.set_cons_zero, List.set_cons_succ]
        refine wpAnyH_ready (rs := [0]) (by kernel_rfl) (by simp) ?_
        refine AllReadyH.cons (o := _) rfl (fun K hK => ?_) AllReadyH.nil
        go_simp
        refine hK.out _ _ hKd (fun hHeld => ?_)
        clear hK K
        try simp only [List.getElem_toArray, List.getElem_cons_succ, List.getElem_cons_zero, Act.put, List.setIfInBounds_toArray, List.set_cons_zero, List.set_cons_succ]
        refine wpAnyH_ready (rs := [3]) (by kernel_rfl) (by simp) ?_
        refine AllReadyH.cons (o := _) rfl (fun K hK => ?_) AllReadyH.nil
        go_simp
        refine (pblock_any s shaK _ rfl rfl (l.drop q) b1 off n _ _ (by omega) hd ?hl hl64).mono ?_; (case hl => (intro i u hu; exact below_cell (hQ.below.mono (Nat.le_refl _)) (hcell i u hu))); rintro e w7 ⟨rfl, hb7⟩; replace hQ := (hQ.drew 1).past hb7 hlt12; clear h0 h1 h2 h3 h4 h5 h6 h7 hb7; (have f0 := hQ.arr.froz (j := 0) (by omega)); (have f1 := hQ.arr.froz (j := 1) (by omega)); (have f2 := hQ.arr.froz (j := 2) (by omega)); (have f3 := hQ.arr.froz (j := 3) (by omega)); (have f4 := hQ.arr.froz (j := 4) (by omega)); (have f5 := hQ.arr.froz (j := 5) (by omega)); (have f6 := hQ.arr.froz (j := 6) (by omega)); (have f7 := hQ.arr.froz (j := 7) (by omega)); (have e0 := hQ.arr.cell (j := 0) (by omega)); (have e1 := hQ.arr.cell (j := 1) (by omega)); (have e2 := hQ.arr.cell (j := 2) (by omega)); (have e3 := hQ.arr.cell (j := 3) (by omega)); (have e4 := hQ.arr.cell (j := 4) (by omega)); (have e5 := hQ.arr.cell (j := 5) (by omega)); (have e6 := hQ.arr.cell (j := 6) (by omega)); (have e7 := hQ.arr.cell (j := 7) (by omega)); simp only [S8.at] at e0 e1 e2 e3 e4 e5 e6 e7; (have hK7 : w7.rangeAt w2.heap.size 0 (shaK.map U) := World.rangeAt_of_block hQ.k 0 64); (obtain ⟨y, hy⟩ : ∃ y, blockS shaK s (List.drop q l) = y := ⟨_, rfl⟩); rw [hy]; (have HY := Lib.hid hy); clear hy; (have hK8 : (setS w7 (w.heap.size + 1) y).rangeAt w2.heap.size 0 (shaK.map U) := World.rangeAt_of_block (hQ.set hlt12 y).k 0 64); unfold setS at hK8; unfold S8.vals
        go_wp2_with fail
        refine hK.out _ _ hK7 (fun hHeld => ?_)
        clear hK K
        try simp only [List.getElem_toArray, List.getElem_cons_succ, List.getElem_cons_zero, Act.put, List.setIfInBounds_toArray, List.set_cons_zero, List.set_cons_succ]
        refine wpAnyH_ready (rs := [6]) (by kernel_rfl) (by simp) ?_
        refine AllReadyH.cons (o := _) rfl (fun K hK => ?_) AllReadyH.nil
        go_simp
        refine hK.out _ _ hK8 (fun hHeld => ?_)
        clear hK K
        try simp only [List.getElem_toArray, List.getElem_cons_succ, List.getElem_cons_zero, Act.put, List.setIfInBounds_toArray, List.set_cons_zero, List.set_cons_succ]
        refine wpAnyH_take (i := 7) (oi := _) (v := ?_) rfl (by kernel_rfl) (by kernel_rfl) (by kernel_rfl) (fun _ _ _ h => h) (Or.inl ⟨by rfl, ?_⟩) hHeld ?_
        rotate_left
        · intro w hSw
          go_simp
          try with_reducible rfl
        try simp only [List.getElem_toArray, List.getElem_cons_succ, List.getElem_cons_zero, Act.put, List.setIfInBounds_toArray, List.set_cons_zero, List.set_cons_succ]
        refine wpAnyH_done (by kernel_rfl) ?_ _
        refine NoPanic.normal ?_
        go_wp2_with fail
        go_roundw
        case rel =>
          have HR : SumQ l w (Array.replicate 32 (.int .u8 0)) w2.heap.size (blocks sha0 l (j + 1)) (setS w7 (w.heap.size + 1) y) := by
            have h := hQ.set hlt12 y
            have e : blocks sha0 l (j + 1) = y := by rw [blocks_succ, HS.out, ← HQ.out, HY.out]
            rw [e]
            exact h
          have hsn2 := hsn.out
          first | rw [if_pos hc, show c1 - 64 = 0 by omega] at hsn2 | rw [if_neg hc] at hsn2
          have e2 : List.drop 64 (Lib.byteCells (List.drop q l)) = Lib.byteCells (List.drop (q + 64) l) := by
            simp only [Lib.byteCells, ← List.map_drop, List.drop_drop]
          rw [e2] at hsn2
          first
            | (have HR1 : P1 l w (Array.replicate 32 (.int .u8 0)) w2.heap.size (.slice (some ⟨b1, off, none⟩) (n - 64) 0) (setS w7 (w.heap.size + 1) y) := ⟨j + 1, q + 64, Lib.hid (by have := HQ.out; omega), by have := HN.out; omega, hsn2, HR⟩
               first | exact HR1 | ((repeat apply Exists.intro); refine ⟨HR1, ?_⟩; first | rfl | (repeat' (first | apply And.intro | rfl))))
            | (have HR1 : P1 l w (Array.replicate 32 (.int .u8 0)) w2.heap.size (.slice (some ⟨b1, off + 64, none⟩) (n - 64) (c1 - 64)) (setS w7 (w.heap.size + 1) y) := ⟨j + 1, q + 64, Lib.hid (by have := HQ.out; omega), by have := HN.out; omega, hsn2, HR⟩
               first | exact HR1 | ((repeat apply Exists.intro); refine ⟨HR1, ?_⟩; first | rfl | (repeat' (first | apply And.intro | rfl))))
        case measure => (show n - 64 < n); omega)
    · have hsrc' := hsrc.block (hQ.below.mono (Nat.le_refl _))
      have h8 := u8one (l.drop q)
      have hown0 : wr.ownsRow wr.heap.size 5 1 (.slice none 0 0) 0 [] := ⟨by simp, .inl ⟨rfl, rfl⟩⟩
      go_wp2_with (at_builtin; first
        | (refine wpList_pushL rfl _ _ 24 rfl wr.heap.size 5 i0 (.int .u8 0) 1 Tryd.underlying24 hi hz0 hz1 hz2 rfl _ 0 [] rfl hown0 _ (Lib.byteCells (l.drop q)) rfl hsrc' h8 (by omega) (by omega) (by omega) ?_; clear hown0 hsrc'; intro v1 w1 hownA hgrowA; have hzA := hgrowA.size; rw [Nat.zero_add, hdl, List.nil_append] at hownA)
        | (go_must (refine wpList_push rfl _ _ 24 rfl wr.heap.size 5 i0 (.int .u8 0) 1 Tryd.underlying24 hi hz0 hz1 hz2 rfl _ n (Lib.byteCells (l.drop q)) rfl (World.ownsRow.alloc hownA _) ⟨w1.heap.size, 0, none⟩ _ rfl (cell_new _ _ _) rfl (by omega) (by omega) (by rw [World.size_alloc]; omega) ?_); intro v2 w3 hownB hgrowB hatB; skip))
      have hQA := hQ.grown hlt12 hgrowA (fun k hk => by have hk' : (none : Option Nat) = some k := hk; cases hk')
      have hQB := (hQA.alloc hlt12 _).grown hlt12 hgrowB (fun k hk => by have := (hownA.lt k hk).1; have := hQ.size; omega)
      have hzB := hgrowB.size
      simp only [World.size_alloc] at hzB
      obtain ⟨r, hr⟩ : ∃ r, l.drop q = r := ⟨_, rfl⟩
      have hrl : r.length = n := by rw [← hr, List.length_drop]; exact HN.out
      rw [hr] at hownB
      have HR0 := Lib.hid hr
      obtain ⟨s, hs⟩ : ∃ s, blocks sha0 l j = s := ⟨_, rfl⟩
      rw [hs] at hQB
      have HS := Lib.hid hs
      have hpB : w2.heap.size < wr.heap.size := hQ.size
      obtain ⟨B, hBe⟩ : ∃ B, wr.heap.size = B := ⟨_, rfl⟩
      have hP : P2 l w (Array.replicate 32 (.int .u8 0)) w2.heap.size s B n r v2 w3 := ⟨0, Nat.zero_le _, by
        have h := ownsRow_snoc (l := r) (by rw [hrl]; exact hownB) 128 rfl
        have e : (r ++ [128]).length = n + 1 := by simp [hrl]
        rw [e] at h
        rw [← hBe]
        simpa using h, hQB, by omega⟩
      have HRL := Lib.hid hrl
      rw [hBe] at hpB
      clear hgrowA hgrowB hownA hownB hatB hQA hQB hzA hzB hsrc h8 hr hs hrl hdl hQ hBe
      go_loopw [6] (fun v wx => P2 l w (Array.replicate 32 (.int .u8 0)) w2.heap.size s B n r v wx) (fun v _ => zpad n + n + 1 - slLen v)
      case atStart => exact hP
      case round =>
        clear hP
        obtain ⟨k, hk, hown, hQ, hz⟩ := hrel
        have hps := pad_step n k hk
        obtain ⟨m, hm⟩ : ∃ m, n + 1 + k = m := ⟨_, rfl⟩
        rw [hm] at hps hown
        have hzp : zpad n < 64 := by unfold zpad; omega
        have HM := Lib.hid hm
        have hm1 : m ≤ 400100 := by omega
        have hm0 : 0 < m := by omega
        clear hm
        obtain ⟨g, cap, rfl, hg1, hg2⟩ := hown.form hm0
        by_cases hd2 : (m : Int) % 64 = 56
        · have hkz := hps.1 hd2
          have HD := Lib.hid hd2
          subst hkz
          clear hps hk
          have hL : (r ++ [128] ++ List.replicate (zpad n) 0).length = m := by have h1 := HRL.out; have h2 := HM.out; simp; omega
          generalize hLe : r ++ [128] ++ List.replicate (zpad n) 0 = L at hown hL
          have HL := Lib.hid hLe
          have HLL := Lib.hid hL
          clear hLe hL
          go_wp2_with fail
          clear hd2
          go_loopw [6, 7] (fun v i wx => P3 l w (Array.replicate 32 (.int .u8 0)) w2.heap.size s B m L v i wx) (fun _ i _ => (intOf i + 8).toNat)
          case atStart => exact ⟨0, by omega, rfl, by simpa [eightL] using hown, hQ, hz⟩
          case round =>
            clear hown hQ hz hg2
            obtain ⟨k, hk, rfl, hown, hQ, hz⟩ := hrel
            by_cases hlt : k < 8
            · have HSN := Lib.hid (eightL_succ (8 * l.length) k)
              obtain ⟨xs, hxs⟩ : ∃ xs, Lib.byteCells (L ++ eightL (8 * l.length) k) = xs := ⟨_, rfl⟩
              rw [hxs] at hown
              have HX := Lib.hid hxs
              clear hxs
              obtain ⟨ml, hml⟩ : ∃ ml, m + k = ml := ⟨_, rfl⟩
              rw [hml] at hown
              have HML := Lib.hid hml
              have hml1 : ml ≤ 400200 := by omega
              have HP : Hid (∀ v i w', w'.ownsRow B 5 1 v (ml + 1) (xs ++ [.int .u8 ((eightB (8 * l.length) k).toNat : Int)]) → i = .int .i64 (56 - 8 * ((k + 1 : Nat) : Int)) → SumQ l w (Array.replicate 32 (.int .u8 0)) w2.heap.size s w' → B ≤ w'.heap.size → P3 l w (Array.replicate 32 (.int .u8 0)) w2.heap.size s B m L v i w') := Lib.hid fun v i w' h1 h2 h3 h4 => by
                refine ⟨k + 1, by omega, h2, ?_, h3, h4⟩
                rw [HSN.out, ← List.append_assoc, show Lib.byteCells (L ++ eightL (8 * l.length) k ++ [eightB (8 * l.length) k]) = Lib.byteCells (L ++ eightL (8 * l.length) k) ++ [.int .u8 ((eightB (8 * l.length) k).toNat : Int)] by simp [Lib.byteCells], HX.out, ← Nat.add_assoc, hml]
                exact h1
              have hml0 : 0 < ml := by omega
              clear hml
              obtain ⟨g, cap, rfl, hg1, hg2⟩ := hown.form hml0
              rcases (by omega : k = 0 ∨ k = 1 ∨ k = 2 ∨ k = 3 ∨ k = 4 ∨ k = 5 ∨ k = 6 ∨ k = 7) with rfl | rfl | rfl | rfl | rfl | rfl | rfl | rfl
              all_goals (
                go_wp2_with (at_builtin; refine wpList_push rfl _ _ 24 rfl B 5 i0 (.int .u8 0) 1 Tryd.underlying24 hi hz0 hz1 hz2 rfl _ ml xs rfl (World.ownsRow.alloc hown _) ⟨wr.heap.size, 0, none⟩ _ rfl (cell_new _ _ _) rfl (by omega) (by omega) (by rw [World.size_alloc]; omega) ?_; intro v2 w2' hownB hgrowB hatB)
                have hQ2 := (hQ.alloc hlt12 _).grown hlt12 hgrowB (fun k hk => by have := (hown.lt k hk).1; omega)
                have hz2' := hgrowB.size
                simp only [World.size_alloc] at hz2'
                clear hgrowB hatB
                go_roundw
                case rel => exact HP.out v2 _ w2' (ownsRow_last hownB (by simp only [eightB_nat]; omega)) (by rfl) hQ2 (by omega)
                case measure => simp [intOf])
            · obtain rfl : k = 8 := by omega
              have hTl : (L ++ eightL (8 * l.length) 8).length = m + 8 := by rw [List.length_append, HLL.out, eightL_len]
              obtain ⟨T, hT⟩ : ∃ T, L ++ eightL (8 * l.length) 8 = T := ⟨_, rfl⟩
              rw [hT] at hown hTl
              have HT := Lib.hid hT
              obtain ⟨M, hM⟩ : ∃ M, m + 8 = M := ⟨_, rfl⟩
              rw [hM] at hown hTl
              have hM64 : M % 64 = 0 := by have := HD.out; omega
              have HTL := Lib.hid hTl
              have HMM := Lib.hid hM
              have hM0 : 0 < M := by omega
              have hM1 : M ≤ 400200 := by omega
              clear hT hM hTl
              obtain ⟨g, cap, rfl, hg1, hg2⟩ := hown.form hM0
              have hcap := ownsRow_cap hown
              go_wp2_with fail
              go_loopw [6] (fun v wx => P4 l w (Array.replicate 32 (.int .u8 0)) w2.heap.size s B M g cap T v wx) (fun v _ => slLen v)
              case atStart => exact ⟨0, 0, 0, M, cap, Lib.hid (by omega), hM1, rfl, hown, hQ⟩
              case round =>
                clear hown hQ hz hg2
                obtain ⟨i, q', o, n1, c1, HI, hn1, rfl, hown, hQ⟩ := hrel
                by_cases hlt : 0 < n1
                · have h64 : 64 ≤ n1 := by have := HI.out; omega
                  obtain rfl : o = q' := HI.out.2.2.2 hlt
                  obtain ⟨s1, hs1⟩ : ∃ s1, blocks s T i = s1 := ⟨_, rfl⟩
                  rw [hs1] at hQ
                  have HS1 := Lib.hid hs1
                  clear hs1
                  have h0 := hQ.arr.cell (j := 0) (by omega)
                  have h1 := hQ.arr.cell (j := 1) (by omega)
                  have h2 := hQ.arr.cell (j := 2) (by omega)
                  have h3 := hQ.arr.cell (j := 3) (by omega)
                  have h4 := hQ.arr.cell (j := 4) (by omega)
                  have h5 := hQ.arr.cell (j := 5) (by omega)
                  have h6 := hQ.arr.cell (j := 6) (by omega)
                  have h7 := hQ.arr.cell (j := 7) (by omega)
                  simp only [S8.at] at h0 h1 h2 h3 h4 h5 h6 h7
                  have hrk := hQ.k
                  by_cases hc : c1 = 64
                  all_goals (
                    go_wp2_with (refine wpList_load_row rfl 106 _ rfl w2.heap.size rfl 106 shaKc (0, 0) _ hrk Tryd.underlying106 rfl (by kernel_rfl) ?_)
                    refine (pblock_any s1 shaK shaKc rfl rfl (T.drop o) g o n1 _ wr (by omega) h64 ?hl (by have h1 := HI.out; have h2 := HTL.out; rw [List.length_drop]; omega)).mono ?_
                    case hl =>
                      intro i u hu
                      rw [List.getElem?_drop] at hu
                      have hlt2 : o + i < T.length := (List.getElem?_eq_some_iff.1 hu).1
                      rw [hown.cellAt (o + i) (by rw [HTL.out] at hlt2; omega)]
                      simp [Lib.byteCells, hu]
                    rintro e w7 ⟨rfl, hb7⟩
                    clear h0 h1 h2 h3 h4 h5 h6 h7 hrk
                    have hown := ownsRow_below hown hb7
                    replace hQ := hQ.past hb7 hlt12
                    clear hb7
                    obtain ⟨y, hy⟩ : ∃ y, blockS shaK s1 (T.drop o) = y := ⟨_, rfl⟩
                    rw [hy]
                    have HY := Lib.hid hy
                    clear hy
                    have f0 := hQ.arr.froz (j := 0) (by omega)
                    have e0 := hQ.arr.cell (j := 0) (by omega)
                    have f1 := hQ.arr.froz (j := 1) (by omega)
                    have e1 := hQ.arr.cell (j := 1) (by omega)
                    have f2 := hQ.arr.froz (j := 2) (by omega)
                    have e2 := hQ.arr.cell (j := 2) (by omega)
                    have f3 := hQ.arr.froz (j := 3) (by omega)
                    have e3 := hQ.arr.cell (j := 3) (by omega)
                    have f4 := hQ.arr.froz (j := 4) (by omega)
                    have e4 := hQ.arr.cell (j := 4) (by omega)
                    have f5 := hQ.arr.froz (j := 5) (by omega)
                    have e5 := hQ.arr.cell (j := 5) (by omega)
                    have f6 := hQ.arr.froz (j := 6) (by omega)
                    have e6 := hQ.arr.cell (j := 6) (by omega)
                    have f7 := hQ.arr.froz (j := 7) (by omega)
                    have e7 := hQ.arr.cell (j := 7) (by omega)
                    simp only [S8.at] at e0 e1 e2 e3 e4 e5 e6 e7
                    unfold S8.vals
                    go_wp2
                    go_roundw
                    case rel =>
                      have HR : SumQ l w (Array.replicate 32 (.int .u8 0)) w2.heap.size (blocks s T (i + 1)) (setS w7 (w.heap.size + 1) y) := by
                        have h := hQ.set hlt12 y
                        have e : blocks s T (i + 1) = y := by rw [blocks_succ, HS1.out, ← HI.out.1, HY.out]
                        rw [e]
                        exact h
                      have ho2 : (setS w7 (w.heap.size + 1) y).ownsRow B 5 1 (.slice (some ⟨g, 0, none⟩) M cap) M (Lib.byteCells T) := by
                        refine ownsRow_heap hown ?_
                        intro g' hg
                        have hg' : g = g' := Option.some.inj hg
                        have hne : w.heap.size + 1 ≠ g' := by omega
                        clear hg
                        exact setS_heap hne y
                      first
                        | (have HR4 : P4 l w (Array.replicate 32 (.int .u8 0)) w2.heap.size s B M g cap T (.slice (some ⟨g, o, none⟩) (n1 - 64) 0) (setS w7 (w.heap.size + 1) y) := ⟨i + 1, o + 64, o, n1 - 64, 0, Lib.hid (by have := HI.out; omega), by omega, rfl, ho2, HR⟩
                           first | exact HR4 | ((repeat apply Exists.intro); refine ⟨HR4, ?_⟩; first | rfl | (repeat' (first | apply And.intro | rfl))))
                        | (have HR4 : P4 l w (Array.replicate 32 (.int .u8 0)) w2.heap.size s B M g cap T (.slice (some ⟨g, o + 64, none⟩) (n1 - 64) (c1 - 64)) (setS w7 (w.heap.size + 1) y) := ⟨i + 1, o + 64, o + 64, n1 - 64, c1 - 64, Lib.hid (by have := HI.out; omega), by omega, rfl, ho2, HR⟩
                           first | exact HR4 | ((repeat apply Exists.intro); refine ⟨HR4, ?_⟩; first | rfl | (repeat' (first | apply And.intro | rfl))))
                    case measure => (show n1 - 64 < n1); omega)
                · have hi : i = M / 64 := by have := HI.out; omega
                  subst hi
                  have hfin : blocks s T (M / 64) = shaS l := sum_fin l (q := q) (j := j) hq HQ.out HR0.out HS.out HN.out HL.out HT.out HTL.out hM64
                  rw [hfin] at hQ
                  clear hfin hown HI
                  have hbr := hQ.below
                  have hrow := hQ.row
                  have harrS := hQ.arr
                  have hsz := hQ.size
                  clear hQ
                  generalize hs : shaS l = s' at harrS
                  have HS' := Lib.hid hs
                  clear hs
                  have hR : wr.rangeAt (w.heap.size + 1) 0 [.int .u32 (s'.a.toNat : Int), .int .u32 (s'.b.toNat : Int), .int .u32 (s'.c.toNat : Int), .int .u32 (s'.d.toNat : Int), .int .u32 (s'.e.toNat : Int), .int .u32 (s'.f.toNat : Int), .int .u32 (s'.g.toNat : Int), .int .u32 (s'.h.toNat : Int)] := arr_range harrS
                  have hw1 : w.heap.size < wr.heap.size := by omega
                  have hw2 : w.heap.size + 1 < wr.heap.size := by omega
                  obtain ⟨wo, rfl⟩ : ∃ wo, wo = wr := ⟨_, rfl⟩
                  go_wp2_with (refine wpList_load_mid rfl 105 _ rfl (w.heap.size + 1) 0 rfl _ _ (World.rangeAt_alloc hR _) Tryd.underlying105 rfl (by kernel_rfl) ?_)
                  go_loopw [58] (fun i wx => ∃ k : Nat, k ≤ 8 ∧ i = .int .i64 k ∧ DigR w wo s' (w.heap.size + 1) (4 * k) wx) (fun i _ => 8 - (intOf i).toNat)
                  case atStart =>
                    exact ⟨0, by omega, rfl, hbr.alloc (by have := hbr.size; omega) _, by simp, hrow.alloc _, harrS.alloc (by omega) _, arrB_new wo (Array.replicate 32 (.int .u8 0)) _ _ _ (fun j hj => by simp [hj, UB, upB]), ⟨_, heap_alloc_new wo _, rfl⟩⟩
                  case round =>
                    obtain ⟨k, hk, rfl, hD⟩ := hrel
                    by_cases hlt : k < 8
                    · have hst := (((hD.step (by omega) hw1 hw2).step (by omega) hw1 hw2).step (by omega) hw1 hw2).step (by omega) hw1 hw2
                      rw [← dByte0 s' (4 * k) (s'.at k) (by congr 1; omega) (by omega), ← dByte1 s' (4 * k + 1) (s'.at k) (by congr 1; omega) (by omega), ← dByte2 s' (4 * k + 1 + 1) (s'.at k) (by congr 1; omega) (by omega), ← dByte3 s' (4 * k + 1 + 1 + 1) (s'.at k) (by congr 1; omega) (by omega)] at hst
                      have hc0 := hD.d.cell (j := 4 * k) (by omega)
                      have hf0 := hD.d.froz (j := 4 * k) (by omega)
                      have hc1 := hD.d.cell (j := 4 * k + 1) (by omega)
                      have hf1 := hD.d.froz (j := 4 * k + 1) (by omega)
                      have hc2 := hD.d.cell (j := 4 * k + 2) (by omega)
                      have hf2 := hD.d.froz (j := 4 * k + 2) (by omega)
                      have hc3 := hD.d.cell (j := 4 * k + 3) (by omega)
                      have hf3 := hD.d.froz (j := 4 * k + 3) (by omega)
                      have HK := Lib.hid (DigR.four hst (by omega))
                      clear hst hD
                      rcases (by omega : k = 0 ∨ k = 1 ∨ k = 2 ∨ k = 3 ∨ k = 4 ∨ k = 5 ∨ k = 6 ∨ k = 7) with rfl | rfl | rfl | rfl | rfl | rfl | rfl | rfl
                      all_goals (
                        simp only [Nat.reduceMul, Nat.reduceAdd, Nat.mul_zero, Nat.zero_add] at hc0 hf0 hc1 hf1 hc2 hf2 hc3 hf3
                        go_wp2_with (refine wpList_index_one rfl 105 _ _ rfl _ rfl _ rfl 103 8 Tryd.underlying105 (by omega) (by kernel_rfl) (by kernel_rfl) _ rfl ?_)
                        go_roundw
                        case rel =>
                          have HR := HK.out
                          first | exact HR | ((repeat apply Exists.intro); refine ⟨HR, ?_⟩; first | rfl | (repeat' (first | apply And.intro | rfl)))
                        case measure => simp [intOf])
                    · obtain rfl : k = 8 := by omega
                      have hE := digR_end hD
                      have hrow := hD.row
                      have hbl := hD.below
                      clear hD
                      generalize hc : (Lib.byteCells (s8bytes s')).toArray = cur at hE
                      have hsz : cur.size = 32 := by rw [← hc]; simp [Lib.byteCells, s8bytes]
                      have hone : cur.all (·.oneCell') = true := by rw [← hc]; simp [Lib.byteCells]; intro x hx; rfl
                      have HC := Lib.hid hc
                      clear hc
                      go_wp2_with (first
                        | (refine wpList_load_row rfl 97 _ rfl _ rfl 97 cur (0, 0) _ hE Tryd.underlying97 rfl (by rw [hsz]; kernel_rfl) ?_)
                        | (refine wpList_store_row rfl 97 _ _ rfl w.heap.size cur rfl rfl 97 _ hrow (by rw [hsz]; kernel_rfl) (by rw [hsz]; rfl) hone ?_))
                      refine bodyPost_ret (v := .agg cur) (results_cell_row (show Tryd.f52.results = #[.cell 2 97] from by kernel_rfl) _ _ w.heap.size 97 cur (0, 0) _ rfl hrow.setRow Tryd.underlying97 rfl (by rw [hsz]; kernel_rfl)) rfl ⟨?_, below_setRow hbl (Nat.le_refl _)⟩
                      have e1 := HC.out
                      have e2 := HS'.out
                      subst e1
                      subst e2
                      rfl
        · have hkz : ¬ k = zpad n := fun e => hd2 (hps.2 e)
          go_wp2_with (at_builtin; refine wpList_push rfl _ _ 24 rfl B 5 i0 (.int .u8 0) 1 Tryd.underlying24 hi hz0 hz1 hz2 rfl _ m (Lib.byteCells (r ++ [128] ++ List.replicate k 0)) rfl (World.ownsRow.alloc hown _) ⟨wr.heap.size, 0, none⟩ _ rfl (cell_new _ _ _) rfl (by omega) (by omega) (by rw [World.size_alloc]; omega) ?_; intro v2 w2' hownB hgrowB hatB)
          have hQ2 := (hQ.alloc hlt12 _).grown hlt12 hgrowB (fun k hk => by have := (hown.lt k hk).1; omega)
          have hz2' := hgrowB.size
          simp only [World.size_alloc] at hz2'
          clear hgrowB hatB
          go_roundw
          case rel =>
            have HR : P2 l w (Array.replicate 32 (.int .u8 0)) w2.heap.size s B n r v2 w2' := ⟨k + 1, by omega, by
              have hmm := HM.out
              have hlen : (r ++ [128] ++ List.replicate k 0).length = m := by have := HRL.out; simp; omega
              have h := ownsRow_snoc (w := w2') (base := B) (e := 5) (v := v2) (l := r ++ [128] ++ List.replicate k 0) (by rw [hlen]; exact hownB) 0 rfl
              have hlen2 : (r ++ [128] ++ List.replicate k 0 ++ [0]).length = m + 1 := by rw [List.length_append, hlen]; rfl
              rw [hlen2] at h
              rw [List.replicate_succ', ← List.append_assoc, show n + 1 + (k + 1) = m + 1 by omega]
              exact h, hQ2, by omega⟩
            first | exact HR | ((repeat apply Exists.intro); refine ⟨HR, ?_⟩; first | rfl | (repeat' (first | apply And.intro | rfl)))
          case measure =>
            have hmm := HM.out
            obtain ⟨g2, cap2, rfl, -, -⟩ := hownB.form (by omega)
            simp only [slLen]
            omega
end Go.Proofs.YtehibiplodjofaaDoor
end
