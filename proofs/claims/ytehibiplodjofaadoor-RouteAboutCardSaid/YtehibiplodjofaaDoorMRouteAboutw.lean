/- Texts of this proof, put together: Rm29. -/
import Derived.Test.YtehibiplodjofaaDoorMRouteAboutk
import Derived.Test.YtehibiplodjofaaDoorMRouteAboutu
section
/- route.kinds, by its walk. -/
namespace Go.Proofs.YtehibiplodjofaaDoor
open Go.RowKit Go.Proofs.YtehibiplodjofaaDoorW.PrintWords
set_option linter.unusedVariables false
set_option linter.unusedSimpArgs false
def kindsT : List (LineK × Int) := [
  ((0, (⟨#[71, 69, 84]⟩ : ByteArray), (⟨#[]⟩ : ByteArray)), 1), ((1, (⟨#[80, 85, 84]⟩ : ByteArray), (⟨#[]⟩ : ByteArray)), 2), ((1, (⟨#[68, 69, 76, 69, 84, 69]⟩ : ByteArray), (⟨#[]⟩ : ByteArray)), 3), ((1, (⟨#[72, 69, 65, 68]⟩ : ByteArray), (⟨#[]⟩ : ByteArray)), 4), ((1, (⟨#[71, 69, 84]⟩ : ByteArray), (⟨#[]⟩ : ByteArray)), 5), ((1, (⟨#[71, 69, 84]⟩ : ByteArray), (⟨#[118, 101, 114, 115, 105, 111, 110, 115]⟩ : ByteArray)), 6), ((1, (⟨#[71, 69, 84]⟩ : ByteArray), (⟨#[118, 101, 114, 115, 105, 111, 110, 105, 110, 103]⟩ : ByteArray)), 7), ((1, (⟨#[80, 85, 84]⟩ : ByteArray), (⟨#[118, 101, 114, 115, 105, 111, 110, 105, 110, 103]⟩ : ByteArray)), 8), ((1, (⟨#[71, 69, 84]⟩ : ByteArray), (⟨#[108, 105, 102, 101, 99, 121, 99, 108, 101]⟩ : ByteArray)), 9), ((1, (⟨#[80, 85, 84]⟩ : ByteArray), (⟨#[108, 105, 102, 101, 99, 121, 99, 108, 101]⟩ : ByteArray)), 10), ((1, (⟨#[68, 69, 76, 69, 84, 69]⟩ : ByteArray), (⟨#[108, 105, 102, 101, 99, 121, 99, 108, 101]⟩ : ByteArray)), 11),
  ((2, (⟨#[71, 69, 84]⟩ : ByteArray), (⟨#[]⟩ : ByteArray)), 12), ((2, (⟨#[72, 69, 65, 68]⟩ : ByteArray), (⟨#[]⟩ : ByteArray)), 13), ((2, (⟨#[80, 85, 84]⟩ : ByteArray), (⟨#[]⟩ : ByteArray)), 14), ((2, (⟨#[68, 69, 76, 69, 84, 69]⟩ : ByteArray), (⟨#[]⟩ : ByteArray)), 15), ((2, (⟨#[80, 79, 83, 84]⟩ : ByteArray), (⟨#[117, 112, 108, 111, 97, 100, 115]⟩ : ByteArray)), 16), ((2, (⟨#[80, 85, 84]⟩ : ByteArray), (⟨#[117, 112, 108, 111, 97, 100, 73, 100]⟩ : ByteArray)), 17), ((2, (⟨#[71, 69, 84]⟩ : ByteArray), (⟨#[117, 112, 108, 111, 97, 100, 73, 100]⟩ : ByteArray)), 18), ((2, (⟨#[80, 79, 83, 84]⟩ : ByteArray), (⟨#[117, 112, 108, 111, 97, 100, 73, 100]⟩ : ByteArray)), 19), ((2, (⟨#[68, 69, 76, 69, 84, 69]⟩ : ByteArray), (⟨#[117, 112, 108, 111, 97, 100, 73, 100]⟩ : ByteArray)), 20)]
def tabF (j : Nat) : LineK × Int := kindsT.getD (j / 2 - 1) ((0, (⟨#[]⟩ : ByteArray), (⟨#[]⟩ : ByteArray)), 0)
def litJ : List Nat := [2, 4, 6, 8, 10, 12, 14, 16, 18, 20, 22, 24, 26, 28, 30, 32, 34, 36, 38, 40]
def litD : List Nat := [0, 1, 3, 5, 7, 9, 11, 13, 15, 17, 19, 21, 23, 25, 27, 29, 31, 33, 35, 37, 39]
theorem tab_apart : ∀ x ∈ litJ, ∀ y ∈ litJ, (tabF x).1 = (tabF y).1 → x = y := by decide +kernel
theorem tab_all : litJ.map tabF = kindsT := by decide +kernel
theorem findK_none (k : LineK) : ∀ (ks : List (LineK × Int)) (i : Nat), (∀ p ∈ ks, k ≠ p.1) → findK k ks i = none
  | [], _, _ => rfl
  | p :: r, i, h => by
    unfold findK
    rw [if_neg (h p (by simp))]
    exact findK_none k r (i + 1) fun q hq => h q (by simp [hq])
theorem wpOp_insert {ops : Array Oper} {Q : Exit → Act → World → Prop} {a : Act} {K : Act → World → Prop} {w : World} {j : Nat} {o : Oper} {m k x : Operand} {r : Nat} {key : LineK} {v : Int} {ks : List (LineK × Int)} (ho : ops[j]? = some o) (hop : o.op = .insert 53 m k x) (hd : o.dst = none) (hg : o.guard = none)
    (hm : a.eval m = .map (some r)) (hk : a.eval k = lineV key) (hx : a.eval x = .int .i64 v) (hI : MapIs w r ks) (hn : findK key ks 0 = none)
    (hK : ∀ o', MapIs { w with heap := w.heap.setIfInBounds r o' } r (ks ++ [(key, v)]) → K a { w with heap := w.heap.setIfInBounds r o' }) : wpOp Tryd.prog ops Q j K a w := by
  obtain ⟨o', hr, hm'⟩ := run_insertL w r ks key v hI hn
  refine wpOp_step ho fun K' hK' => ?_
  rw [if_pos (by simp [Region.wanted, hg])]
  unfold Oper.wp
  simp only [execOp, hop, hm, hk, hx, Sem.run_bind, hr, Result.andThen_ok, Sem.run_pure, Oper.upon_skip]
  rw [hd]
  exact hK' _ _ (hK o' hm')
theorem below_setMap {B : Nat} {w w' : World} (h : Below B w w') {r : Nat} (hr : B ≤ r) (o : Obj) : Below B w { w' with heap := w'.heap.setIfInBounds r o } :=
  ⟨h.os, h.tape, h.output, by simpa using h.size, fun k hk => by
    show (w'.heap.setIfInBounds r o)[k]? = _
    rw [Array.getElem?_setIfInBounds_ne (by omega)]
    exact h.block k hk⟩
set_option maxHeartbeats 4000000 in
set_option maxRecDepth 100000 in
theorem kinds_any (w : World) : Calls Tryd.prog 20 #[] w fun e w' => ∃ ks, e = .returned (.map (some w.heap.size)) ∧ MapIs w' w.heap.size ks ∧ (∀ p ∈ ks, p ∈ kindsT) ∧ (∀ p ∈ kindsT, p ∈ ks) ∧ Below w.heap.size w w' := by
  go_enter Tryd.func20, Tryd.ntmps20
  go_wp2_with fail
  refine wp_region_held_drew (S := fun _ => True) (by kernel_rfl) trivial (fun hHeld => ?_)
  refine wpAnyH_take (i := 1) (oi := _) (v := ?_) rfl (by kernel_rfl) (by kernel_rfl) (by kernel_rfl) (fun _ _ _ h => h) (Or.inl ⟨by rfl, ?_⟩) hHeld ?_
  rotate_left
  · intro w hSw
    go_simp
    try with_reducible rfl
  try simp only [List.getElem_toArray, List.getElem_cons_succ, List.getElem_cons_zero, Act.put, List.setIfInBounds_toArray, List.set_cons_zero, List.set_cons_succ]
  refine wpAnyH_take (i := 3) (oi := _) (v := ?_) rfl (by kernel_rfl) (by kernel_rfl) (by kernel_rfl) (fun _ _ _ h => h) (Or.inl ⟨by rfl, ?_⟩) hHeld ?_
  rotate_left
  · intro w hSw
    go_simp
    try with_reducible rfl
  try simp only [List.getElem_toArray, List.getElem_cons_succ, List.getElem_cons_zero, Act.put, List.setIfInBounds_toArray, List.set_cons_zero, List.set_cons_succ]
  refine wpAnyH_take (i := 5) (oi := _) (v := ?_) rfl (by kernel_rfl) (by kernel_rfl) (by kernel_rfl) (fun _ _ _ h => h) (Or.inl ⟨by rfl, ?_⟩) hHeld ?_
  rotate_left
  · intro w hSw
    go_simp
    try with_reducible rfl
  try simp only [List.getElem_toArray, List.getElem_cons_succ, List.getElem_cons_zero, Act.put, List.setIfInBounds_toArray, List.set_cons_zero, List.set_cons_succ]
  refine wpAnyH_take (i := 7) (oi := _) (v := ?_) rfl (by kernel_rfl) (by kernel_rfl) (by kernel_rfl) (fun _ _ _ h => h) (Or.inl ⟨by rfl, ?_⟩) hHeld ?_
  rotate_left
  · intro w hSw
    go_simp
    try with_reducible rfl
  try simp only [List.getElem_toArray, List.getElem_cons_succ, List.getElem_cons_zero, Act.put, List.setIfInBounds_toArray, List.set_cons_zero, List.set_cons_succ]
  refine wpAnyH_take (i := 9) (oi := _) (v := ?_) rfl (by kernel_rfl) (by kernel_rfl) (by kernel_rfl) (fun _ _ _ h => h) (Or.inl ⟨by rfl, ?_⟩) hHeld ?_
  rotate_left
  · intro w hSw
    go_simp
    try with_reducible rfl
  try simp only [List.getElem_toArray, List.getElem_cons_succ, List.getElem_cons_zero, Act.put, List.setIfInBounds_toArray, List.set_cons_zero, List.set_cons_succ]
  refine wpAnyH_take (i := 11) (oi := _) (v := ?_) rfl (by kernel_rfl) (by kernel_rfl) (by kernel_rfl) (fun _ _ _ h => h) (Or.inl ⟨by rfl, ?_⟩) hHeld ?_
  rotate_left
  · intro w hSw
    go_simp
    try with_reducible rfl
  try simp only [List.getElem_toArray, List.getElem_cons_succ, List.getElem_cons_zero, Act.put, List.setIfInBounds_toArray, List.set_cons_zero, List.set_cons_succ]
  refine wpAnyH_take (i := 13) (oi := _) (v := ?_) rfl (by kernel_rfl) (by kernel_rfl) (by kernel_rfl) (fun _ _ _ h => h) (Or.inl ⟨by rfl, ?_⟩) hHeld ?_
  rotate_left
  · intro w hSw
    go_simp
    try with_reducible rfl
  try simp only [List.getElem_toArray, List.getElem_cons_succ, List.getElem_cons_zero, Act.put, List.setIfInBounds_toArray, List.set_cons_zero, List.set_cons_succ]
  refine wpAnyH_take (i := 15) (oi := _) (v := ?_) rfl (by kernel_rfl) (by kernel_rfl) (by kernel_rfl) (fun _ _ _ h => h) (Or.inl ⟨by rfl, ?_⟩) hHeld ?_
  rotate_left
  · intro w hSw
    go_simp
    try with_reducible rfl
  try simp only [List.getElem_toArray, List.getElem_cons_succ, List.getElem_cons_zero, Act.put, List.setIfInBounds_toArray, List.set_cons_zero, List.set_cons_succ]
  refine wpAnyH_take (i := 17) (oi := _) (v := ?_) rfl (by kernel_rfl) (by kernel_rfl) (by kernel_rfl) (fun _ _ _ h => h) (Or.inl ⟨by rfl, ?_⟩) hHeld ?_
  rotate_left
  · intro w hSw
    go_simp
    try with_reducible rfl
  try simp only [List.getElem_toArray, List.getElem_cons_succ, List.getElem_cons_zero, Act.put, List.setIfInBounds_toArray, List.set_cons_zero, List.set_cons_succ]
  refine wpAnyH_take (i := 19) (oi := _) (v := ?_) rfl (by kernel_rfl) (by kernel_rfl) (by kernel_rfl) (fun _ _ _ h => h) (Or.inl ⟨by rfl, ?_⟩) hHeld ?_
  rotate_left
  · intro w hSw
    go_simp
    try with_reducible rfl
  try simp only [List.getElem_toArray, List.getElem_cons_succ, List.getElem_cons_zero, Act.put, List.setIfInBounds_toArray, List.set_cons_zero, List.set_cons_succ]
  refine wpAnyH_take (i := 21) (oi := _) (v := ?_) rfl (by kernel_rfl) (by kernel_rfl) (by kernel_rfl) (fun _ _ _ h => h) (Or.inl ⟨by rfl, ?_⟩) hHeld ?_
  rotate_left
  · intro w hSw
    go_simp
    try with_reducible rfl
  try simp only [List.getElem_toArray, List.getElem_cons_succ, List.getElem_cons_zero, Act.put, List.setIfInBounds_toArray, List.set_cons_zero, List.set_cons_succ]
  refine wpAnyH_take (i := 23) (oi := _) (v := ?_) rfl (by kernel_rfl) (by kernel_rfl) (by kernel_rfl) (fun _ _ _ h => h) (Or.inl ⟨by rfl, ?_⟩) hHeld ?_
  rotate_left
  · intro w hSw
    go_simp
    try with_reducible rfl
  try simp only [List.getElem_toArray, List.getElem_cons_succ, List.getElem_cons_zero, Act.put, List.setIfInBounds_toArray, List.set_cons_zero, List.set_cons_succ]
  refine wpAnyH_take (i := 25) (oi := _) (v := ?_) rfl (by kernel_rfl) (by kernel_rfl) (by kernel_rfl) (fun _ _ _ h => h) (Or.inl ⟨by rfl, ?_⟩) hHeld ?_
  rotate_left
  · intro w hSw
    go_simp
    try with_reducible rfl
  try simp only [List.getElem_toArray, List.getElem_cons_succ, List.getElem_cons_zero, Act.put, List.setIfInBounds_toArray, List.set_cons_zero, List.set_cons_succ]
  refine wpAnyH_take (i := 27) (oi := _) (v := ?_) rfl (by kernel_rfl) (by kernel_rfl) (by kernel_rfl) (fun _ _ _ h => h) (Or.inl ⟨by rfl, ?_⟩) hHeld ?_
  rotate_left
  · intro w hSw
    go_simp
    try with_reducible rfl
  try simp only [List.getElem_toArray, List.getElem_cons_succ, List.getElem_cons_zero, Act.put, List.setIfInBounds_toArray, List.set_cons_zero, List.set_cons_succ]
  refine wpAnyH_take (i := 29) (oi := _) (v := ?_) rfl (by kernel_rfl) (by kernel_rfl) (by kernel_rfl) (fun _ _ _ h => h) (Or.inl ⟨by rfl, ?_⟩) hHeld ?_
  rotate_left
  · intro w hSw
    go_simp
    try with_reducible rfl
  try simp only [List.getElem_toArray, List.getElem_cons_succ, List.getElem_cons_zero, Act.put, List.setIfInBounds_toArray, List.set_cons_zero, List.set_cons_succ]
  refine wpAnyH_take (i := 31) (oi := _) (v := ?_) rfl (by kernel_rfl) (by kernel_rfl) (by kernel_rfl) (fun _ _ _ h => h) (Or.inl ⟨by rfl, ?_⟩) hHeld ?_
  rotate_left
  · intro w hSw
    go_simp
    try with_reducible rfl
  try simp only [List.getElem_toArray, List.getElem_cons_succ, List.getElem_cons_zero, Act.put, List.setIfInBounds_toArray, List.set_cons_zero, List.set_cons_succ]
  refine wpAnyH_take (i := 33) (oi := _) (v := ?_) rfl (by kernel_rfl) (by kernel_rfl) (by kernel_rfl) (fun _ _ _ h => h) (Or.inl ⟨by rfl, ?_⟩) hHeld ?_
  rotate_left
  · intro w hSw
    go_simp
    try with_reducible rfl
  try simp only [List.getElem_toArray, List.getElem_cons_succ, List.getElem_cons_zero, Act.put, List.setIfInBounds_toArray, List.set_cons_zero, List.set_cons_succ]
  refine wpAnyH_take (i := 35) (oi := _) (v := ?_) rfl (by kernel_rfl) (by kernel_rfl) (by kernel_rfl) (fun _ _ _ h => h) (Or.inl ⟨by rfl, ?_⟩) hHeld ?_
  rotate_left
  · intro w hSw
    go_simp
    try with_reducible rfl
  try simp only [List.getElem_toArray, List.getElem_cons_succ, List.getElem_cons_zero, Act.put, List.setIfInBounds_toArray, List.set_cons_zero, List.set_cons_succ]
  refine wpAnyH_take (i := 37) (oi := _) (v := ?_) rfl (by kernel_rfl) (by kernel_rfl) (by kernel_rfl) (fun _ _ _ h => h) (Or.inl ⟨by rfl, ?_⟩) hHeld ?_
  rotate_left
  · intro w hSw
    go_simp
    try with_reducible rfl
  try simp only [List.getElem_toArray, List.getElem_cons_succ, List.getElem_cons_zero, Act.put, List.setIfInBounds_toArray, List.set_cons_zero, List.set_cons_succ]
  refine wpAnyH_take (i := 39) (oi := _) (v := ?_) rfl (by kernel_rfl) (by kernel_rfl) (by kernel_rfl) (fun _ _ _ h => h) (Or.inl ⟨by rfl, ?_⟩) hHeld ?_
  rotate_left
  · intro w hSw
    go_simp
    try with_reducible rfl
  try simp only [List.getElem_toArray, List.getElem_cons_succ, List.getElem_cons_zero, Act.put, List.setIfInBounds_toArray, List.set_cons_zero, List.set_cons_succ]
  refine wpAnyH_ready (rs := [0]) (by kernel_rfl) (by simp) ?_
  refine AllReadyH.cons (o := _) rfl (fun K hK => ?_) AllReadyH.nil
  go_simp
  rw [run_makeMap (P := Tryd.prog) 53 w.drew]
  simp only [Result.andThen_ok, Oper.upon_value, Act.put, List.getElem_toArray, List.setIfInBounds_toArray, List.set_cons_zero, List.set_cons_succ]
  refine hK.out _ _ trivial (fun _ => ?_)
  clear hK K
  refine lit_region litJ litD [41, 42] (fun done w' => MapIs w' w.heap.size (done.map tabF) ∧ Below w.heap.size w w') (by decide) (by decide +kernel) (by decide +kernel) ?hop (fun _ _ _ => trivial) ?hend 20 _ [] _ (by kernel_rfl) (by decide +kernel) (by decide +kernel) (by decide +kernel) (by simp) (by decide +kernel) ?hstart _ (by decide)
  case hstart =>
    exact ⟨⟨#[], 0, heap_alloc_new w.drew (.map #[] 0), rfl⟩, ((Below.refl _ w).drew).alloc (Nat.le_refl _) _⟩
  case hop =>
    intro j hj done w1 hsub hnj hI K hK
    have hfind : findK (tabF j).1 (done.map tabF) 0 = none := findK_none _ _ _ fun p hp he => by
      obtain ⟨x, hx, rfl⟩ := List.mem_map.1 hp
      exact hnj (tab_apart j hj x (hsub x hx) he ▸ hx)
    have hK' : ∀ o', MapIs { w1 with heap := w1.heap.setIfInBounds w.heap.size o' } w.heap.size (done.map tabF ++ [((tabF j).1, (tabF j).2)]) → K _ { w1 with heap := w1.heap.setIfInBounds w.heap.size o' } := fun o' h => hK _ ⟨by rw [List.map_append]; exact h, below_setMap hI.2 (Nat.le_refl _) o'⟩
    have hM := hI.1
    clear hK hI hsub hnj
    simp only [litJ, List.mem_cons, List.not_mem_nil, or_false] at hj
    rcases hj with rfl | rfl | rfl | rfl | rfl | rfl | rfl | rfl | rfl | rfl | rfl | rfl | rfl | rfl | rfl | rfl | rfl | rfl | rfl | rfl <;>
      exact wpOp_insert (key := (tabF _).1) (v := (tabF _).2) rfl rfl rfl rfl rfl (by kernel_rfl) (by kernel_rfl) hM hfind hK'
  case hend =>
    intro listed done w1 hsz hl ht hall hsub ⟨hm, hb⟩ fuel hf
    obtain ⟨f, rfl⟩ : ∃ f, fuel = f + 2 := ⟨fuel - 2, by simp at hf; omega⟩
    have hlisted : listed = Array.ofFn (n := 43) (fun i => decide (i.val < 41)) := by
      refine Array.ext (by rw [hsz]; simp) fun i h1 h2 => ?_
      simp only [Array.getElem_ofFn]
      have h3 : i < 43 := by simpa using h2
      by_cases h : i < 41
      · have := hl i ((by decide : ∀ i, i < 41 → i ∈ litJ ++ litD) i h)
        simpa [h1, h] using this
      · have := ht i (by simp; omega)
        simpa [h1, h] using this
    subst hlisted
    have hks1 : ∀ p ∈ done.map tabF, p ∈ kindsT := fun p hp => by
      obtain ⟨x, hx, rfl⟩ := List.mem_map.1 hp
      rw [← tab_all]
      exact List.mem_map.2 ⟨x, hsub x hx, rfl⟩
    have hks2 : ∀ p ∈ kindsT, p ∈ done.map tabF := fun p hp => by
      rw [← tab_all] at hp
      obtain ⟨x, hx, rfl⟩ := List.mem_map.1 hp
      exact List.mem_map.2 ⟨x, hall x hx, rfl⟩
    clear hl ht hall hsub hsz hf
    have hHeld : True := trivial
    refine wpAnyH_take (i := 41) (oi := _) (v := ?_) rfl (by kernel_rfl) (by kernel_rfl) (by kernel_rfl) (fun _ _ _ h => h) (Or.inl ⟨by rfl, ?_⟩) hHeld ?_
    rotate_left
    · intro w hSw
      go_simp
      try with_reducible rfl
    try simp only [List.getElem_toArray, List.getElem_cons_succ, List.getElem_cons_zero, Act.put, List.setIfInBounds_toArray, List.set_cons_zero, List.set_cons_succ]
    refine wpAnyH_take (i := 42) (oi := _) (v := ?_) rfl (by kernel_rfl) (by kernel_rfl) (by kernel_rfl) (fun _ _ _ h => h) (Or.inl ⟨by rfl, ?_⟩) hHeld ?_
    rotate_left
    · intro w hSw
      go_simp
      try with_reducible rfl
    try simp only [List.getElem_toArray, List.getElem_cons_succ, List.getElem_cons_zero, Act.put, List.setIfInBounds_toArray, List.set_cons_zero, List.set_cons_succ]
    refine wpAnyH_done (by kernel_rfl) ?_ _
    go_wp2
    go_ret
    exact ⟨_, rfl, hm, hks1, hks2, hb⟩
end Go.Proofs.YtehibiplodjofaaDoor
end
