/- Texts of this proof, put together: Rb29, Rn29, Ro29. -/
import Derived.Test.YtehibiplodjofaaDoorMRouteAboutv
import Derived.Test.YtehibiplodjofaaDoorMRouteAboutx
import Derived.Test.YtehibiplodjofaaDoorMRouteAboutm
import Derived.Test.YtehibiplodjofaaDoorWAt
import Derived.Test.YtehibiplodjofaaDoorMRouteAboutu
section
/- route.beside's closures: text, id, count; by their walks. -/
namespace Go.Proofs.YtehibiplodjofaaDoor
open Go.RowKit Go.Proofs.YtehibiplodjofaaDoorW.PrintWords Go.Proofs.YtehibiplodjofaaDoorW.PrintLast Go.Proofs.YtehibiplodjofaaDoorW.PrintMore
set_option linter.unusedVariables false
set_option linter.unusedSimpArgs false
theorem store_fn {P : Program} (D : Nat) (x : Value) (hx : x.oneCell' = true) : ∀ W : World, (W.cell? ⟨D, 0, none⟩).isSome = true → W.frozen? ⟨D, 0, none⟩ = false → (store ⟨D, 0, none⟩ x).run P W = .ok () (W.setCell ⟨D, 0, none⟩ x) := fun W hc hf => by
  obtain ⟨u, hu⟩ := Option.isSome_iff_exists.1 hc
  rw [run_store P W _ x _ hx]
  simp [hu, hf]
/-- The pairs that a captured variable holds; S: the blocks that are written. -/
structure PairsAt (w : World) (P : Nat) (S : Nat → Prop) (l : List PairT) : Prop where
  len : l.length ≤ 32
  nP : ¬ S P
  at_ : ∃ A c, w.heap[P]? = some (.cells #[.slice A l.length c] 29 (0, 0)) ∧ Kd.C Pr.k41 w A l.length l ∧ l.length ≤ c ∧ (∀ ad, A = some ad → 0 < l.length → ¬ S ad.block)
theorem pairs_still {w w' : World} {A : Option Addr} {l : List PairT} {S : Nat → Prop} (h : Kd.C Pr.k41 w A l.length l) (hn : ∀ ad, A = some ad → 0 < l.length → ¬ S ad.block) (hk : Keeps S w w') : Kd.C Pr.k41 w' A l.length l :=
  Kd.C_foot_neS (S := S) (fun {W W' x cs} hx => by have := Pr.k41_open hx; subst this; exact Pr.k41_mk W' x) h hn w' ⟨hk.size, hk.block⟩
theorem PairsAt.keep {w w' : World} {P : Nat} {S : Nat → Prop} {l : List PairT} (h : PairsAt w P S l) (hk : Keeps S w w') : PairsAt w' P S l := by
  obtain ⟨A, c, hb, hC, hc, hn⟩ := h.at_
  exact ⟨h.len, h.nP, A, c, (hk.block P (blk_lt hb) h.nP).trans hb, pairs_still hC hn hk, hc, hn⟩
theorem find_any (n : ByteArray) (A : Option Addr) (c : Nat) (l : List PairT) (hl : l.length ≤ 32) (w : World) (hC : Kd.C Pr.k41 w A l.length l) (hc : l.length ≤ c) :
    Calls Tryd.prog 19 #[.slice A l.length c, .string n] w fun e w' => e = .returned (.tuple #[.string (findP n l).1, .bool (findP n l).2]) ∧ Below w.heap.size w w' :=
  Pr.percent_Find.calls 33 A c l n (findP n l).1 (findP n l).2 w hC hc (pfind_f l n 33 (by omega) (by omega))
theorem cell_lt' {w : World} {g i : Nat} {cs : Array Value} {t : TypeId} (h : w.heap[g]? = some (.cells cs t (0, 0))) (hi : i < cs.size) : w.cell? ⟨g, i, none⟩ = some cs[i] := by rw [blk_cell h]; exact Array.getElem?_eq_getElem hi
set_option maxHeartbeats 1000000 in
theorem btext_any (n : ByteArray) (g i : Nat) (cs : Array Value) (P : Nat) (l : List PairT) (w : World) (hg : w.heap[g]? = some (.cells cs 26 (0, 0))) (hi : i < cs.size) (S : Nat → Prop) (hP : PairsAt w P S l) :
    Calls Tryd.prog 31 #[.string n, .pointer (some ⟨g, i, none⟩), .pointer (some ⟨P, 0, none⟩)] w fun e w' => e = .returned (.bool (findP n l).2) ∧ w'.heap[g]? = some (.cells (cs.setIfInBounds i (.string (findP n l).1)) 26 (0, 0)) ∧ Keeps (fun k => k = g) w w' := by
  obtain ⟨A, c, hb, hC, hc, -⟩ := hP.at_
  have hcP : w.cell? ⟨P, 0, none⟩ = some (.slice A l.length c) := by rw [blk_cell hb]; rfl
  have hfind := find_any n A c l hP.len w hC hc
  generalize findP n l = r at hfind ⊢
  obtain ⟨s, is⟩ := r
  clear hC hb hP
  go_enter Tryd.func31, Tryd.ntmps31
  go_wp2_with fail
  refine hfind.mono ?_
  rintro e w1 ⟨rfl, hb1⟩
  have hg1 := blk_below hg hb1
  have hcg := cell_lt' hg1 hi
  have hfg := blk_frozen hg1 i
  have hg2 := blk_set hg1 i (.string s)
  have hk := ((Keeps.refl (fun k => k = g) w).thenBelow hb1).setCell (p := ⟨g, i, none⟩) (fun _ => rfl) (.string s)
  clear hfind
  go_wp2
  go_ret
  exact ⟨rfl, hg2, hk⟩
def idOk (f : Bool) (r : ByteArray × Bool) : Bool := if r.2 then f && (decide (1 ≤ r.1.size) && decide (r.1.size ≤ 32)) else f
def textFn (P : Nat) : Value := .func (.func 31) #[] #[.pointer (some ⟨P, 0, none⟩)]
set_option maxHeartbeats 1000000 in
theorem id_any (n : ByteArray) (g i : Nat) (cs : Array Value) (P X F : Nat) (f : Bool) (l : List PairT) (w : World) (hg : w.heap[g]? = some (.cells cs 26 (0, 0))) (hi : i < cs.size) (S : Nat → Prop) (hP : PairsAt w P S l)
    (hX : w.heap[X]? = some (.cells #[textFn P] 73 (0, 0))) (hF : w.heap[F]? = some (.cells #[.bool f] 4 (0, 0))) :
    Calls Tryd.prog 32 #[.string n, .pointer (some ⟨g, i, none⟩), .pointer (some ⟨X, 0, none⟩), .pointer (some ⟨F, 0, none⟩)] w fun e w' => e = .returned (.tuple #[]) ∧ w'.heap[g]? = some (.cells (cs.setIfInBounds i (.string (findP n l).1)) 26 (0, 0)) ∧
      w'.heap[F]? = some (.cells #[.bool (idOk f (findP n l))] 4 (0, 0)) ∧ Keeps (fun k => k = g ∨ k = F) w w' := by
  have hgF : F ≠ g := blk_ne hF hg (by decide)
  have hcX : w.cell? ⟨X, 0, none⟩ = some (textFn P) := by rw [blk_cell hX]; rfl
  have htx := btext_any n g i cs P l w hg hi S hP
  generalize findP n l = r at htx ⊢
  obtain ⟨s, is⟩ := r
  unfold textFn at hcX
  go_enter Tryd.func32, Tryd.ntmps32
  go_wp2_with fail
  refine htx.mono ?_
  rintro e w1 ⟨rfl, hg1, hk1⟩
  have hF1 : w1.heap[F]? = some (.cells #[.bool f] 4 (0, 0)) := (hk1.block F (blk_lt hF) hgF).trans hF
  have hk1' : Keeps (fun k => k = g ∨ k = F) w w1 := hk1.mono fun _ _ h => .inl h
  have hcg : w1.cell? ⟨g, i, none⟩ = some (.string s) := by rw [blk_cell hg1]; simp [hi]
  have hcF : w1.cell? ⟨F, 0, none⟩ = some (.bool f) := by rw [blk_cell hF1]; rfl
  have hfF := blk_frozen hF1 0
  clear htx
  cases is
  · go_wp2
    refine bodyPost_end (results_none (by kernel_rfl) _ _ _) rfl ?_
    exact ⟨rfl, hg1, hF1, hk1'⟩
  · have hFf := blk_set hF1 0 (.bool false)
    have hFt := blk_set hF1 0 (.bool true)
    have hgf := blk_far hg1 (p := ⟨F, 0, none⟩) (Ne.symm hgF) (.bool false)
    have hgt := blk_far hg1 (p := ⟨F, 0, none⟩) (Ne.symm hgF) (.bool true)
    have hkf := hk1'.setCell (p := ⟨F, 0, none⟩) (fun _ => .inr rfl) (.bool false)
    have hkt := hk1'.setCell (p := ⟨F, 0, none⟩) (fun _ => .inr rfl) (.bool true)
    cases f
    · go_wp2
      refine bodyPost_end (results_none (by kernel_rfl) _ _ _) rfl ?_
      exact ⟨rfl, hgf, hFf, hkf⟩
    · by_cases h1 : 1 ≤ s.size
      · have d1 : decide (1 ≤ (s.size : Int)) = true := decide_eq_true (by omega)
        have d1' : (1 : Int) ≤ (s.size : Int) := by omega
        by_cases h2 : s.size ≤ 32
        · have d2 : decide ((s.size : Int) ≤ 32) = true := decide_eq_true (by omega)
          have d2' : (s.size : Int) ≤ 32 := by omega
          have hR : idOk true (s, true) = true := by simp [idOk, h1, h2]
          go_wp2
          refine bodyPost_end (results_none (by kernel_rfl) _ _ _) rfl ?_
          exact ⟨rfl, hgt, by rw [hR]; exact hFt, hkt⟩
        · have d2 : decide ((s.size : Int) ≤ 32) = false := decide_eq_false (by omega)
          have d2' : ¬ (s.size : Int) ≤ 32 := by omega
          have hR : idOk true (s, true) = false := by simp [idOk, h1, h2]
          go_wp2
          refine bodyPost_end (results_none (by kernel_rfl) _ _ _) rfl ?_
          exact ⟨rfl, hgf, by rw [hR]; exact hFf, hkf⟩
      · have d1 : decide (1 ≤ (s.size : Int)) = false := decide_eq_false (by omega)
        have d1' : ¬ (1 : Int) ≤ (s.size : Int) := by omega
        have hR : idOk true (s, true) = false := by simp [idOk, h1]
        go_wp2
        refine bodyPost_end (results_none (by kernel_rfl) _ _ _) rfl ?_
        exact ⟨rfl, hgf, by rw [hR]; exact hFf, hkf⟩
def countN (none_ : Int) (r : ByteArray × Bool) : Int := if r.2 then (numR r.1.data.toList).1 else none_
def countOk (f : Bool) (most : Int) (r : ByteArray × Bool) : Bool := if r.2 then f && ((numR r.1.data.toList).2 && (decide (1 ≤ (numR r.1.data.toList).1) && decide ((numR r.1.data.toList).1 ≤ most))) else f
set_option maxHeartbeats 1000000 in
theorem count_any (n : ByteArray) (g i : Nat) (cs : Array Value) (most none_ : Int) (P F : Nat) (f : Bool) (l : List PairT) (w : World) (hg : w.heap[g]? = some (.cells cs 26 (0, 0))) (hi : i < cs.size) (S : Nat → Prop) (hP : PairsAt w P S l) (hSg : S g)
    (hF : w.heap[F]? = some (.cells #[.bool f] 4 (0, 0))) :
    Calls Tryd.prog 33 #[.string n, .pointer (some ⟨g, i, none⟩), .int .i64 most, .int .i64 none_, .pointer (some ⟨P, 0, none⟩), .pointer (some ⟨F, 0, none⟩)] w fun e w' => e = .returned (.tuple #[]) ∧ w'.heap[g]? = some (.cells (cs.setIfInBounds i (.int .i64 (countN none_ (findP n l)))) 26 (0, 0)) ∧
      w'.heap[F]? = some (.cells #[.bool (countOk f most (findP n l))] 4 (0, 0)) ∧ Keeps (fun k => k = g ∨ k = F) w w' := by
  have hgF : F ≠ g := blk_ne hF hg (by decide)
  obtain ⟨A, c, hb, hC, hc, hlt⟩ := hP.at_
  have hcP : w.cell? ⟨P, 0, none⟩ = some (.slice A l.length c) := by rw [blk_cell hb]; rfl
  have hPg : P ≠ g := blk_ne hb hg (by decide)
  have hcg0 := cell_lt' hg hi
  have hfg0 := blk_frozen hg i
  have hg1 := blk_set hg i (.int .i64 none_)
  have hk1 := (Keeps.refl (fun k => k = g ∨ k = F) w).setCell (p := ⟨g, i, none⟩) (fun _ => .inl rfl) (.int .i64 none_)
  have hF1 := blk_far hF (p := ⟨g, i, none⟩) hgF (.int .i64 none_)
  have hb1 := blk_far hb (p := ⟨g, i, none⟩) hPg (.int .i64 none_)
  have hcP1 : (w.setCell ⟨g, i, none⟩ (.int .i64 none_)).cell? ⟨P, 0, none⟩ = some (.slice A l.length c) := by rw [blk_cell hb1]; rfl
  have hC1 : Kd.C Pr.k41 (w.setCell ⟨g, i, none⟩ (.int .i64 none_)) A l.length l := pairs_still hC hlt ((Keeps.refl S w).setCell (p := ⟨g, i, none⟩) (fun _ => hSg) _)
  have hfind := find_any n A c l hP.len (w.setCell ⟨g, i, none⟩ (.int .i64 none_)) hC1 hc
  generalize findP n l = r at hfind ⊢
  obtain ⟨s, is⟩ := r
  clear hC hC1 hb hb1 hP hlt
  cases is
  · go_enter Tryd.func33, Tryd.ntmps33
    go_wp2_with fail
    refine hfind.mono ?_
    clear hfind
    rintro e w2 ⟨rfl, hb2⟩
    have hg2 := blk_below hg1 hb2
    have hF2 := blk_below hF1 hb2
    have hk2 := hk1.thenBelow hb2
    clear hb2 hg1 hF1 hk1 hcP1 hcP
    go_wp2
    refine bodyPost_end (results_none (by kernel_rfl) _ _ _) rfl ?_
    exact ⟨rfl, hg2, hF2, hk2⟩
  · have hR1 : countN none_ (s, true) = (numR s.data.toList).1 := rfl
    have hR2 : countOk f most (s, true) = (f && ((numR s.data.toList).2 && (decide (1 ≤ (numR s.data.toList).1) && decide ((numR s.data.toList).1 ≤ most)))) := rfl
    rw [hR1, hR2]
    clear hR1 hR2
    have hnum := number_any s
    generalize numR s.data.toList = q at hnum ⊢
    obtain ⟨m, ok⟩ := q
    go_enter Tryd.func33, Tryd.ntmps33
    go_wp2_with fail
    refine hfind.mono ?_
    clear hfind
    rintro e w2 ⟨rfl, hb2⟩
    have hg2 := blk_below hg1 hb2
    have hF2 := blk_below hF1 hb2
    have hk2 := hk1.thenBelow hb2
    clear hb2 hg1 hF1 hk1 hcP1 hcP
    go_wp2_with fail
    refine (hnum w2).mono ?_
    clear hnum
    rintro e w3 ⟨rfl, hb3⟩
    have hg3 := blk_below hg2 hb3
    have hF3 := blk_below hF2 hb3
    have hk3 := hk2.thenBelow hb3
    have hcg : w3.cell? ⟨g, i, none⟩ = some (.int .i64 none_) := by rw [blk_cell hg3]; simp [hi]
    have hfg := blk_frozen hg3 i
    have hg4 := blk_set hg3 i (.int .i64 m)
    rw [Array.setIfInBounds_setIfInBounds] at hg4
    have hF4 := blk_far hF3 (p := ⟨g, i, none⟩) hgF (.int .i64 m)
    have hk4 := hk3.setCell (p := ⟨g, i, none⟩) (fun _ => .inl rfl) (.int .i64 m)
    clear hg2 hF2 hk2 hb3
    have hcF : (w3.setCell ⟨g, i, none⟩ (.int .i64 m)).cell? ⟨F, 0, none⟩ = some (.bool f) := by rw [blk_cell hF4]; rfl
    have hfF := blk_frozen hF4 0
    have hR : ∀ b, (f && (ok && (decide (1 ≤ m) && decide (m ≤ most)))) = b → (((w3.setCell ⟨g, i, none⟩ (.int .i64 m)).setCell ⟨F, 0, none⟩ (.bool b)).heap[g]? = some (.cells (cs.setIfInBounds i (.int .i64 m)) 26 (0, 0)) ∧ ((w3.setCell ⟨g, i, none⟩ (.int .i64 m)).setCell ⟨F, 0, none⟩ (.bool b)).heap[F]? = some (.cells #[.bool (f && (ok && (decide (1 ≤ m) && decide (m ≤ most))))] 4 (0, 0)) ∧ Keeps (fun k => k = g ∨ k = F) w ((w3.setCell ⟨g, i, none⟩ (.int .i64 m)).setCell ⟨F, 0, none⟩ (.bool b))) := by
      rintro b rfl
      exact ⟨blk_far hg4 (p := ⟨F, 0, none⟩) (Ne.symm hgF) _, blk_set hF4 0 _, hk4.setCell (p := ⟨F, 0, none⟩) (fun _ => .inr rfl) _⟩
    have HR := Lib.hid hR
    clear hR hg3 hF3 hk3 hg4 hk4 hF4
    cases f
    · go_wp2
      refine bodyPost_end (results_none (by kernel_rfl) _ _ _) rfl ?_
      exact ⟨rfl, HR.out false rfl⟩
    · cases ok
      · go_wp2
        refine bodyPost_end (results_none (by kernel_rfl) _ _ _) rfl ?_
        exact ⟨rfl, HR.out false rfl⟩
      · by_cases h1 : 1 ≤ m
        · have d1 : decide (1 ≤ m) = true := decide_eq_true h1
          by_cases h2 : m ≤ most
          · have d2 : decide (m ≤ most) = true := decide_eq_true h2
            have hRt := Lib.hid (HR.out true (by simp [h1, h2]))
            clear HR
            go_wp2
            refine bodyPost_end (results_none (by kernel_rfl) _ _ _) rfl ?_
            exact ⟨rfl, hRt.out⟩
          · have d2 : decide (m ≤ most) = false := decide_eq_false h2
            have hRt := Lib.hid (HR.out false (by simp [h1, h2]))
            clear HR
            go_wp2
            refine bodyPost_end (results_none (by kernel_rfl) _ _ _) rfl ?_
            exact ⟨rfl, hRt.out⟩
        · have d1 : decide (1 ≤ m) = false := decide_eq_false h1
          have hRt := Lib.hid (HR.out false (by simp [h1]))
          clear HR
          go_wp2
          refine bodyPost_end (results_none (by kernel_rfl) _ _ _) rfl ?_
          exact ⟨rfl, hRt.out⟩
end Go.Proofs.YtehibiplodjofaaDoor
end
section
/- route.about, route.ranged, by their walks. -/
namespace Go.Proofs.YtehibiplodjofaaDoor
open Go.RowKit Go.Proofs.YtehibiplodjofaaDoorW.PrintWords Go.Proofs.YtehibiplodjofaaDoorW.PrintLast Go.Proofs.YtehibiplodjofaaDoorW.PrintMore
set_option linter.unusedVariables false
set_option linter.unusedSimpArgs false
def cutB (c : UInt8) (s : ByteArray) : ByteArray × ByteArray × Bool := (⟨(cutF c s.data.toList).1.toArray⟩, ⟨(cutF c s.data.toList).2.toArray⟩, (cutAt c s.data.toList).isSome)
theorem cutB_any (s : ByteArray) (c : UInt8) (hs : s.size ≤ 1000000) (w : World) : Calls Tryd.prog 27 #[.string s, .string ⟨#[c]⟩] w fun e w' => e = .returned (.tuple #[.string (cutB c s).1, .string (cutB c s).2.1, .bool (cutB c s).2.2]) ∧ ∃ n, w' = w.drewN n :=
  (cut_both s c w hs).mono fun e w' h => h
theorem cutB_size (s : ByteArray) (c : UInt8) : (cutB c s).1.size ≤ s.size ∧ (cutB c s).2.1.size ≤ s.size := by
  have := cutF_len c s.data.toList
  rw [bs_len s]
  simp only [cutB, bs_len, List.toList_toArray]
  omega
/-- What a path is about; what is stored. -/
def aboutP (s : ByteArray) : (Int × Bool) × Option (ByteArray × ByteArray) :=
  if s = ⟨#[47]⟩ then ((0, true), none)
  else let b := (cutB 47 (s.extract 1 s.size)).1; let k := (cutB 47 (s.extract 1 s.size)).2.1
    (if bucketB b = false then (0, false) else if k = ⟨#[]⟩ then (1, true) else (2, keyB k), some (b, k))
def aboutC (cs : Array Value) : Option (ByteArray × ByteArray) → Array Value
  | none => cs
  | some (b, k) => (cs.setIfInBounds 1 (.string b)).setIfInBounds 2 (.string k)
set_option maxHeartbeats 2000000 in
theorem about_any (s : ByteArray) (g : Nat) (cs : Array Value) (w : World) (hs : s.size ≤ 1000000) (hs1 : 1 ≤ s.size) (hg : w.heap[g]? = some (.cells cs 26 (0, 0))) (hz : cs.size = 15) :
    Calls Tryd.prog 17 #[.string s, .pointer (some ⟨g, 0, none⟩)] w fun e w' => e = .returned (.tuple #[.int .i64 (aboutP s).1.1, .bool (aboutP s).1.2]) ∧ w'.heap[g]? = some (.cells (aboutC cs (aboutP s).2) 26 (0, 0)) ∧ Keeps (fun k => k = g) w w' := by
  by_cases h1 : s = ⟨#[47]⟩
  · have hA : aboutP s = ((0, true), none) := by unfold aboutP; rw [if_pos h1]
    rw [hA]
    clear hA
    subst h1
    go_enter Tryd.func17, Tryd.ntmps17
    go_wp2
    go_ret2
    exact ⟨rfl, hg, Keeps.refl _ _⟩
  · have hA : aboutP s = (let b := (cutB 47 (s.extract 1 s.size)).1; let k := (cutB 47 (s.extract 1 s.size)).2.1; (if bucketB b = false then (0, false) else if k = ⟨#[]⟩ then (1, true) else (2, keyB k), some (b, k))) := by unfold aboutP; rw [if_neg h1]
    rw [hA]
    clear hA
    have hse : (s.extract 1 s.size).size ≤ s.size := by rw [ByteArray.size_extract]; omega
    have hcut := cutB_any (s.extract 1 s.size) 47 (by omega) w
    have hsz := cutB_size (s.extract 1 s.size) 47
    generalize cutB 47 (s.extract 1 s.size) = r at hcut hsz ⊢
    obtain ⟨b, k, f⟩ := r
    simp only at hcut hsz ⊢
    have hn : (s.toList == ([47] : List UInt8)) = false := by
      rw [beq_eq_false_iff_ne]
      intro h
      exact h1 (bs_ext (by rw [← bs_toList, h]))
    have hn' : s.toList ≠ ([47] : List UInt8) := by simpa using hn
    have hb := bucket_any b
    have hk := fun w => key_any k w (by omega)
    generalize bucketB b = bb at hb ⊢
    generalize keyB k = kb at hk ⊢
    clear h1
    have hs1i : (1 : Int) ≤ (s.size : Int) := by omega
    cases bb
    · simp only [if_true]
      go_enter Tryd.func17, Tryd.ntmps17
      go_wp2_with fail
      refine hcut.mono ?_
      clear hcut
      rintro e w1 ⟨rfl, q, rfl⟩
      have hg1 : (w.drewN q).heap[g]? = some (.cells cs 26 (0, 0)) := hg
      have hk1 : Keeps (fun k => k = g) w (w.drewN q) := (Keeps.refl _ w).drewN q
      generalize w.drewN q = w1 at hg1 hk1 ⊢
      obtain ⟨u1, c1⟩ : ∃ u, w1.cell? ⟨g, 1, none⟩ = some u := ⟨_, cell_lt' (i := 1) hg1 (by omega)⟩
      have f1 := blk_frozen hg1 1
      have hg2 := blk_set hg1 1 (.string b)
      have hk2 := hk1.setCell (p := ⟨g, 1, none⟩) (fun _ => rfl) (.string b)
      obtain ⟨u2, c2⟩ : ∃ u, (w1.setCell ⟨g, 1, none⟩ (.string b)).cell? ⟨g, 2, none⟩ = some u := ⟨_, cell_lt' (i := 2) hg2 (by simp; omega)⟩
      have f2 := blk_frozen hg2 2
      have hg3 := blk_set hg2 2 (.string k)
      have hk3 := hk2.setCell (p := ⟨g, 2, none⟩) (fun _ => rfl) (.string k)
      clear hg1 hk1 hg2 hk2
      go_wp2_with fail
      refine (hb _).mono ?_
      clear hb
      rintro e w2 ⟨rfl, hb2⟩
      have hg4 := blk_below hg3 hb2
      have hk4 := hk3.thenBelow hb2
      clear hg3 hk3 hb2 c1 f1 c2 f2
      go_wp2
      go_ret2
      exact ⟨rfl, hg4, hk4⟩
    · by_cases hke : k = ⟨#[]⟩
      · have hn2' : k.toList = ([] : List UInt8) := by rw [hke, bs_toList]
        have hn2 : (k.toList == ([] : List UInt8)) = true := by rw [hn2']; rfl
        rw [if_neg (by decide), if_pos hke]
        clear hke
        go_enter Tryd.func17, Tryd.ntmps17
        go_wp2_with fail
        refine hcut.mono ?_
        clear hcut
        rintro e w1 ⟨rfl, q, rfl⟩
        have hg1 : (w.drewN q).heap[g]? = some (.cells cs 26 (0, 0)) := hg
        have hk1 : Keeps (fun k => k = g) w (w.drewN q) := (Keeps.refl _ w).drewN q
        generalize w.drewN q = w1 at hg1 hk1 ⊢
        obtain ⟨u1, c1⟩ : ∃ u, w1.cell? ⟨g, 1, none⟩ = some u := ⟨_, cell_lt' (i := 1) hg1 (by omega)⟩
        have f1 := blk_frozen hg1 1
        have hg2 := blk_set hg1 1 (.string b)
        have hk2 := hk1.setCell (p := ⟨g, 1, none⟩) (fun _ => rfl) (.string b)
        obtain ⟨u2, c2⟩ : ∃ u, (w1.setCell ⟨g, 1, none⟩ (.string b)).cell? ⟨g, 2, none⟩ = some u := ⟨_, cell_lt' (i := 2) hg2 (by simp; omega)⟩
        have f2 := blk_frozen hg2 2
        have hg3 := blk_set hg2 2 (.string k)
        have hk3 := hk2.setCell (p := ⟨g, 2, none⟩) (fun _ => rfl) (.string k)
        clear hg1 hk1 hg2 hk2
        go_wp2_with fail
        refine (hb _).mono ?_
        clear hb
        rintro e w2 ⟨rfl, hb2⟩
        have hg4 := blk_below hg3 hb2
        have hk4 := hk3.thenBelow hb2
        clear hg3 hk3 hb2 c1 f1 c2 f2
        go_wp2
        go_ret2
        exact ⟨rfl, hg4, hk4⟩
      · have hn2 : (k.toList == ([] : List UInt8)) = false := by
          rw [beq_eq_false_iff_ne]
          intro h
          exact hke (bs_ext (by rw [← bs_toList, h]))
        have hn2' : k.toList ≠ ([] : List UInt8) := by simpa using hn2
        rw [if_neg (by decide), if_neg hke]
        clear hke
        go_enter Tryd.func17, Tryd.ntmps17
        go_wp2_with fail
        refine hcut.mono ?_
        clear hcut
        rintro e w1 ⟨rfl, q, rfl⟩
        have hg1 : (w.drewN q).heap[g]? = some (.cells cs 26 (0, 0)) := hg
        have hk1 : Keeps (fun k => k = g) w (w.drewN q) := (Keeps.refl _ w).drewN q
        generalize w.drewN q = w1 at hg1 hk1 ⊢
        obtain ⟨u1, c1⟩ : ∃ u, w1.cell? ⟨g, 1, none⟩ = some u := ⟨_, cell_lt' (i := 1) hg1 (by omega)⟩
        have f1 := blk_frozen hg1 1
        have hg2 := blk_set hg1 1 (.string b)
        have hk2 := hk1.setCell (p := ⟨g, 1, none⟩) (fun _ => rfl) (.string b)
        obtain ⟨u2, c2⟩ : ∃ u, (w1.setCell ⟨g, 1, none⟩ (.string b)).cell? ⟨g, 2, none⟩ = some u := ⟨_, cell_lt' (i := 2) hg2 (by simp; omega)⟩
        have f2 := blk_frozen hg2 2
        have hg3 := blk_set hg2 2 (.string k)
        have hk3 := hk2.setCell (p := ⟨g, 2, none⟩) (fun _ => rfl) (.string k)
        clear hg1 hk1 hg2 hk2
        go_wp2_with fail
        refine (hb _).mono ?_
        clear hb
        rintro e w2 ⟨rfl, hb2⟩
        have hg4 := blk_below hg3 hb2
        have hk4 := hk3.thenBelow hb2
        clear hg3 hk3 hb2 c1 f1 c2 f2
        go_wp2_with fail
        refine (hk _).mono ?_
        clear hk
        rintro e w3 ⟨rfl, hb3⟩
        have hg5 := blk_below hg4 hb3
        have hk5 := hk4.thenBelow hb3
        go_wp2
        go_ret2
        exact ⟨rfl, hg5, hk5⟩
end Go.Proofs.YtehibiplodjofaaDoor
end
section
/- route.ranged, by its walk. -/
namespace Go.Proofs.YtehibiplodjofaaDoor
open Go.RowKit Go.Proofs.YtehibiplodjofaaDoorW.PrintWords Go.Proofs.YtehibiplodjofaaDoorW.PrintLast Go.Proofs.YtehibiplodjofaaDoorW.PrintMore
set_option linter.unusedVariables false
set_option linter.unusedSimpArgs false
def preB (s : ByteArray) : ByteArray × Bool := if s.data.toList.take 6 = ([98, 121, 116, 101, 115, 61] : List UInt8) then (⟨(s.data.toList.drop 6).toArray⟩, true) else (s, false)
theorem preB_f (s : ByteArray) (hs : s.size ≤ 1000000) : Pr.strings_CutPrefix.f s (⟨#[98, 121, 116, 101, 115, 61]⟩ : ByteArray) = some (preB s) := by
  unfold Pr.strings_CutPrefix.f Pr.stringslite_CutPrefix.f Pr.stringslite_HasPrefix.f
  have h1 : ((⟨#[98, 121, 116, 101, 115, 61]⟩ : ByteArray)).size = 6 := rfl
  have h2 : ((⟨#[98, 121, 116, 101, 115, 61]⟩ : ByteArray)).toList = ([98, 121, 116, 101, 115, 61] : List UInt8) := by rw [bs_toList]
  have h3 : s.data.toList.length = s.size := (bs_len s).symm
  rw [h1, h2]
  by_cases h : 6 ≤ s.size
  all_goals have h' : ((6 : Int) ≤ (s.size : Int)) = (6 ≤ s.size) := propext ⟨fun _ => by omega, fun _ => by omega⟩
  · have he : (s.extract 0 6).toList = s.data.toList.take 6 := by rw [bs_toList, ext_list]; simp
    have hd : s.extract 6 s.size = ⟨(s.data.toList.drop 6).toArray⟩ := by
      rw [ext_list, List.take_of_length_le (by rw [List.length_drop]; omega)]
    unfold preB
    by_cases hp : s.data.toList.take 6 = ([98, 121, 116, 101, 115, 61] : List UInt8)
    · simp [h, h', he, hp, hd]
    · simp [h, h', he, hp, hd]
  · have hp : ¬ s.data.toList.take 6 = ([98, 121, 116, 101, 115, 61] : List UInt8) := fun hp => by
      have := congrArg List.length hp
      simp at this
      omega
    unfold preB
    rw [if_neg hp]
    simp [h, h']
def rangedP (s : ByteArray) : Bool × Option (Int × Int) :=
  if (preB s).2 = true ∧ (cutB 45 (preB s).1).2.2 = true then
    let a := (cutB 45 (preB s).1).1; let b := (cutB 45 (preB s).1).2.1
    let x := numR a.data.toList; let y := numR b.data.toList
    if a = ⟨#[]⟩ then (y.2 && decide (0 < y.1), some (-1, y.1)) else if b = ⟨#[]⟩ then (x.2, some (x.1, -1)) else (x.2 && (y.2 && decide (x.1 ≤ y.1)), some (x.1, y.1))
  else (false, none)
def rangedC (cs : Array Value) : Option (Int × Int) → Array Value
  | none => cs
  | some (f, t) => ((cs.setIfInBounds 11 (.bool true)).setIfInBounds 12 (.int .i64 f)).setIfInBounds 13 (.int .i64 t)
theorem set_twelve (cs : Array Value) (u f f' t : Value) : (((cs.setIfInBounds 11 u).setIfInBounds 12 f).setIfInBounds 13 t).setIfInBounds 12 f' = ((cs.setIfInBounds 11 u).setIfInBounds 12 f').setIfInBounds 13 t := by
  rw [Array.setIfInBounds_comm _ _ (by decide : (13 : Nat) ≠ 12), Array.setIfInBounds_setIfInBounds]
theorem set_thirteen (cs : Array Value) (u f t t' : Value) : (((cs.setIfInBounds 11 u).setIfInBounds 12 f).setIfInBounds 13 t).setIfInBounds 13 t' = ((cs.setIfInBounds 11 u).setIfInBounds 12 f).setIfInBounds 13 t' := by
  rw [Array.setIfInBounds_setIfInBounds]
theorem preB_size (s : ByteArray) : (preB s).1.size ≤ s.size := by
  unfold preB
  split
  · simp only [bs_len, List.toList_toArray, List.length_drop]; omega
  · exact Nat.le_refl _
theorem empty_eq (k : ByteArray) (h : k = ⟨#[]⟩) : k.toList = ([] : List UInt8) ∧ (k.toList == ([] : List UInt8)) = true := by subst h; exact ⟨by rw [bs_toList], by rw [bs_toList]; rfl⟩
theorem empty_ne (k : ByteArray) (h : k ≠ ⟨#[]⟩) : k.toList ≠ ([] : List UInt8) ∧ (k.toList == ([] : List UInt8)) = false := by
  have : k.toList ≠ ([] : List UInt8) := fun e => h (bs_ext (by rw [← bs_toList, e]))
  exact ⟨this, beq_eq_false_iff_ne.2 this⟩
set_option maxHeartbeats 4000000 in
theorem ranged_any (s : ByteArray) (g : Nat) (cs : Array Value) (w : World) (hs : s.size ≤ 1000000) (hg : w.heap[g]? = some (.cells cs 26 (0, 0))) (hz : cs.size = 15) :
    Calls Tryd.prog 37 #[.pointer (some ⟨g, 0, none⟩), .string s] w fun e w' => e = .returned (.bool (rangedP s).1) ∧ w'.heap[g]? = some (.cells (rangedC cs (rangedP s).2) 26 (0, 0)) ∧ Keeps (fun k => k = g) w w' := by
  have hpre := Pr.strings_CutPrefix.calls s (⟨#[98, 121, 116, 101, 115, 61]⟩ : ByteArray) (preB s).1 (preB s).2 w (preB_f s hs)
  have hps := preB_size s
  unfold rangedP
  generalize preB s = r at hpre hps ⊢
  obtain ⟨rest, ok⟩ := r
  simp only at hpre hps ⊢
  have hcut := cutB_any rest 45 (by omega)
  generalize cutB 45 rest = q at hcut ⊢
  obtain ⟨a, b, dash⟩ := q
  simp only at hcut ⊢
  have hna := number_any a
  have hnb := number_any b
  generalize numR a.data.toList = x at hna ⊢
  generalize numR b.data.toList = y at hnb ⊢
  obtain ⟨xf, one⟩ := x
  obtain ⟨xt, two⟩ := y
  simp only at hna hnb ⊢
  by_cases hod : ok = true ∧ dash = true
  · obtain ⟨rfl, rfl⟩ := hod
    rw [if_pos ⟨rfl, rfl⟩]
    by_cases ha : a = ⟨#[]⟩
    · have ha1 := empty_eq a ha
      rw [if_pos ha]
      clear ha
      obtain ⟨ha1, ha2⟩ := ha1
      cases two
      · simp only [Bool.false_and]
        go_enter Tryd.func37, Tryd.ntmps37
        go_wp2_with fail
        refine hpre.mono ?_
        clear hpre
        rintro e w1 ⟨rfl, ⟨q1, rfl⟩⟩
        go_wp2_with fail
        refine (hcut _).mono ?_
        clear hcut
        rintro e w2 ⟨rfl, q2, rfl⟩
        have hg2 : ((w.drewN q1).drewN q2).heap[g]? = some (.cells cs 26 (0, 0)) := hg
        have hk2 : Keeps (fun k => k = g) w ((w.drewN q1).drewN q2) := ((Keeps.refl _ w).drewN q1).drewN q2
        generalize (w.drewN q1).drewN q2 = w2 at hg2 hk2 ⊢
        go_wp2_with fail
        refine (hna _).mono ?_
        clear hna
        rintro e w3 ⟨rfl, hb3⟩
        have hg3 := blk_below hg2 hb3
        have hk3 := hk2.thenBelow hb3
        clear hg2 hk2 hb3
        go_wp2_with fail
        refine (hnb _).mono ?_
        clear hnb
        rintro e w4 ⟨rfl, hb4⟩
        have hg4 := blk_below hg3 hb4
        have hk4 := hk3.thenBelow hb4
        clear hg3 hk3 hb4
        obtain ⟨u1, c1⟩ : ∃ u, w4.cell? ⟨g, 11, none⟩ = some u := ⟨_, cell_lt' (i := 11) hg4 (by omega)⟩
        have f1 := blk_frozen hg4 11
        have hg5 := blk_set hg4 11 (.bool true)
        have hk5 := hk4.setCell (p := ⟨g, 11, none⟩) (fun _ => rfl) (.bool true)
        obtain ⟨u2, c2⟩ : ∃ u, (w4.setCell ⟨g, 11, none⟩ (.bool true)).cell? ⟨g, 12, none⟩ = some u := ⟨_, cell_lt' (i := 12) hg5 (by simp; omega)⟩
        have f2 := blk_frozen hg5 12
        have hg6 := blk_set hg5 12 (.int .i64 xf)
        have hk6 := hk5.setCell (p := ⟨g, 12, none⟩) (fun _ => rfl) (.int .i64 xf)
        obtain ⟨u3, c3⟩ : ∃ u, ((w4.setCell ⟨g, 11, none⟩ (.bool true)).setCell ⟨g, 12, none⟩ (.int .i64 xf)).cell? ⟨g, 13, none⟩ = some u := ⟨_, cell_lt' (i := 13) hg6 (by simp; omega)⟩
        have f3 := blk_frozen hg6 13
        have hg7 := blk_set hg6 13 (.int .i64 xt)
        have hk7 := hk6.setCell (p := ⟨g, 13, none⟩) (fun _ => rfl) (.int .i64 xt)
        clear hg4 hk4 hg5 hk5 hg6 hk6
        obtain ⟨u4, c4⟩ : ∃ u, (((w4.setCell ⟨g, 11, none⟩ (.bool true)).setCell ⟨g, 12, none⟩ (.int .i64 xf)).setCell ⟨g, 13, none⟩ (.int .i64 xt)).cell? ⟨g, 12, none⟩ = some u := ⟨_, cell_lt' (i := 12) hg7 (by simp; omega)⟩
        have f4 := blk_frozen hg7 12
        have hg8 := blk_set hg7 12 (.int .i64 (-1))
        rw [set_twelve] at hg8
        have hk8 := hk7.setCell (p := ⟨g, 12, none⟩) (fun _ => rfl) (.int .i64 (-1))
        clear hg7 hk7
        go_wp2
        go_ret
        exact ⟨rfl, hg8, hk8⟩
      · by_cases hp : 0 < xt
        · have hd : decide (0 < xt) = true := decide_eq_true hp
          simp only [hd, Bool.true_and]
          go_enter Tryd.func37, Tryd.ntmps37
          go_wp2_with fail
          refine hpre.mono ?_
          clear hpre
          rintro e w1 ⟨rfl, ⟨q1, rfl⟩⟩
          go_wp2_with fail
          refine (hcut _).mono ?_
          clear hcut
          rintro e w2 ⟨rfl, q2, rfl⟩
          have hg2 : ((w.drewN q1).drewN q2).heap[g]? = some (.cells cs 26 (0, 0)) := hg
          have hk2 : Keeps (fun k => k = g) w ((w.drewN q1).drewN q2) := ((Keeps.refl _ w).drewN q1).drewN q2
          generalize (w.drewN q1).drewN q2 = w2 at hg2 hk2 ⊢
          go_wp2_with fail
          refine (hna _).mono ?_
          clear hna
          rintro e w3 ⟨rfl, hb3⟩
          have hg3 := blk_below hg2 hb3
          have hk3 := hk2.thenBelow hb3
          clear hg2 hk2 hb3
          go_wp2_with fail
          refine (hnb _).mono ?_
          clear hnb
          rintro e w4 ⟨rfl, hb4⟩
          have hg4 := blk_below hg3 hb4
          have hk4 := hk3.thenBelow hb4
          clear hg3 hk3 hb4
          obtain ⟨u1, c1⟩ : ∃ u, w4.cell? ⟨g, 11, none⟩ = some u := ⟨_, cell_lt' (i := 11) hg4 (by omega)⟩
          have f1 := blk_frozen hg4 11
          have hg5 := blk_set hg4 11 (.bool true)
          have hk5 := hk4.setCell (p := ⟨g, 11, none⟩) (fun _ => rfl) (.bool true)
          obtain ⟨u2, c2⟩ : ∃ u, (w4.setCell ⟨g, 11, none⟩ (.bool true)).cell? ⟨g, 12, none⟩ = some u := ⟨_, cell_lt' (i := 12) hg5 (by simp; omega)⟩
          have f2 := blk_frozen hg5 12
          have hg6 := blk_set hg5 12 (.int .i64 xf)
          have hk6 := hk5.setCell (p := ⟨g, 12, none⟩) (fun _ => rfl) (.int .i64 xf)
          obtain ⟨u3, c3⟩ : ∃ u, ((w4.setCell ⟨g, 11, none⟩ (.bool true)).setCell ⟨g, 12, none⟩ (.int .i64 xf)).cell? ⟨g, 13, none⟩ = some u := ⟨_, cell_lt' (i := 13) hg6 (by simp; omega)⟩
          have f3 := blk_frozen hg6 13
          have hg7 := blk_set hg6 13 (.int .i64 xt)
          have hk7 := hk6.setCell (p := ⟨g, 13, none⟩) (fun _ => rfl) (.int .i64 xt)
          clear hg4 hk4 hg5 hk5 hg6 hk6
          obtain ⟨u4, c4⟩ : ∃ u, (((w4.setCell ⟨g, 11, none⟩ (.bool true)).setCell ⟨g, 12, none⟩ (.int .i64 xf)).setCell ⟨g, 13, none⟩ (.int .i64 xt)).cell? ⟨g, 12, none⟩ = some u := ⟨_, cell_lt' (i := 12) hg7 (by simp; omega)⟩
          have f4 := blk_frozen hg7 12
          have hg8 := blk_set hg7 12 (.int .i64 (-1))
          rw [set_twelve] at hg8
          have hk8 := hk7.setCell (p := ⟨g, 12, none⟩) (fun _ => rfl) (.int .i64 (-1))
          clear hg7 hk7
          go_wp2
          go_ret
          exact ⟨rfl, hg8, hk8⟩
        · have hd : decide (0 < xt) = false := decide_eq_false hp
          simp only [hd, Bool.true_and]
          go_enter Tryd.func37, Tryd.ntmps37
          go_wp2_with fail
          refine hpre.mono ?_
          clear hpre
          rintro e w1 ⟨rfl, ⟨q1, rfl⟩⟩
          go_wp2_with fail
          refine (hcut _).mono ?_
          clear hcut
          rintro e w2 ⟨rfl, q2, rfl⟩
          have hg2 : ((w.drewN q1).drewN q2).heap[g]? = some (.cells cs 26 (0, 0)) := hg
          have hk2 : Keeps (fun k => k = g) w ((w.drewN q1).drewN q2) := ((Keeps.refl _ w).drewN q1).drewN q2
          generalize (w.drewN q1).drewN q2 = w2 at hg2 hk2 ⊢
          go_wp2_with fail
          refine (hna _).mono ?_
          clear hna
          rintro e w3 ⟨rfl, hb3⟩
          have hg3 := blk_below hg2 hb3
          have hk3 := hk2.thenBelow hb3
          clear hg2 hk2 hb3
          go_wp2_with fail
          refine (hnb _).mono ?_
          clear hnb
          rintro e w4 ⟨rfl, hb4⟩
          have hg4 := blk_below hg3 hb4
          have hk4 := hk3.thenBelow hb4
          clear hg3 hk3 hb4
          obtain ⟨u1, c1⟩ : ∃ u, w4.cell? ⟨g, 11, none⟩ = some u := ⟨_, cell_lt' (i := 11) hg4 (by omega)⟩
          have f1 := blk_frozen hg4 11
          have hg5 := blk_set hg4 11 (.bool true)
          have hk5 := hk4.setCell (p := ⟨g, 11, none⟩) (fun _ => rfl) (.bool true)
          obtain ⟨u2, c2⟩ : ∃ u, (w4.setCell ⟨g, 11, none⟩ (.bool true)).cell? ⟨g, 12, none⟩ = some u := ⟨_, cell_lt' (i := 12) hg5 (by simp; omega)⟩
          have f2 := blk_frozen hg5 12
          have hg6 := blk_set hg5 12 (.int .i64 xf)
          have hk6 := hk5.setCell (p := ⟨g, 12, none⟩) (fun _ => rfl) (.int .i64 xf)
          obtain ⟨u3, c3⟩ : ∃ u, ((w4.setCell ⟨g, 11, none⟩ (.bool true)).setCell ⟨g, 12, none⟩ (.int .i64 xf)).cell? ⟨g, 13, none⟩ = some u := ⟨_, cell_lt' (i := 13) hg6 (by simp; omega)⟩
          have f3 := blk_frozen hg6 13
          have hg7 := blk_set hg6 13 (.int .i64 xt)
          have hk7 := hk6.setCell (p := ⟨g, 13, none⟩) (fun _ => rfl) (.int .i64 xt)
          clear hg4 hk4 hg5 hk5 hg6 hk6
          obtain ⟨u4, c4⟩ : ∃ u, (((w4.setCell ⟨g, 11, none⟩ (.bool true)).setCell ⟨g, 12, none⟩ (.int .i64 xf)).setCell ⟨g, 13, none⟩ (.int .i64 xt)).cell? ⟨g, 12, none⟩ = some u := ⟨_, cell_lt' (i := 12) hg7 (by simp; omega)⟩
          have f4 := blk_frozen hg7 12
          have hg8 := blk_set hg7 12 (.int .i64 (-1))
          rw [set_twelve] at hg8
          have hk8 := hk7.setCell (p := ⟨g, 12, none⟩) (fun _ => rfl) (.int .i64 (-1))
          clear hg7 hk7
          go_wp2
          go_ret
          exact ⟨rfl, hg8, hk8⟩
    · have ha1 := empty_ne a ha
      rw [if_neg ha]
      clear ha
      obtain ⟨ha1, ha2⟩ := ha1
      by_cases hb : b = ⟨#[]⟩
      · have hb1 := empty_eq b hb
        rw [if_pos hb]
        clear hb
        obtain ⟨hb1, hb2⟩ := hb1
        go_enter Tryd.func37, Tryd.ntmps37
        go_wp2_with fail
        refine hpre.mono ?_
        clear hpre
        rintro e w1 ⟨rfl, ⟨q1, rfl⟩⟩
        go_wp2_with fail
        refine (hcut _).mono ?_
        clear hcut
        rintro e w2 ⟨rfl, q2, rfl⟩
        have hg2 : ((w.drewN q1).drewN q2).heap[g]? = some (.cells cs 26 (0, 0)) := hg
        have hk2 : Keeps (fun k => k = g) w ((w.drewN q1).drewN q2) := ((Keeps.refl _ w).drewN q1).drewN q2
        generalize (w.drewN q1).drewN q2 = w2 at hg2 hk2 ⊢
        go_wp2_with fail
        refine (hna _).mono ?_
        clear hna
        rintro e w3 ⟨rfl, hb3⟩
        have hg3 := blk_below hg2 hb3
        have hk3 := hk2.thenBelow hb3
        clear hg2 hk2 hb3
        go_wp2_with fail
        refine (hnb _).mono ?_
        clear hnb
        rintro e w4 ⟨rfl, hb4⟩
        have hg4 := blk_below hg3 hb4
        have hk4 := hk3.thenBelow hb4
        clear hg3 hk3 hb4
        obtain ⟨u1, c1⟩ : ∃ u, w4.cell? ⟨g, 11, none⟩ = some u := ⟨_, cell_lt' (i := 11) hg4 (by omega)⟩
        have f1 := blk_frozen hg4 11
        have hg5 := blk_set hg4 11 (.bool true)
        have hk5 := hk4.setCell (p := ⟨g, 11, none⟩) (fun _ => rfl) (.bool true)
        obtain ⟨u2, c2⟩ : ∃ u, (w4.setCell ⟨g, 11, none⟩ (.bool true)).cell? ⟨g, 12, none⟩ = some u := ⟨_, cell_lt' (i := 12) hg5 (by simp; omega)⟩
        have f2 := blk_frozen hg5 12
        have hg6 := blk_set hg5 12 (.int .i64 xf)
        have hk6 := hk5.setCell (p := ⟨g, 12, none⟩) (fun _ => rfl) (.int .i64 xf)
        obtain ⟨u3, c3⟩ : ∃ u, ((w4.setCell ⟨g, 11, none⟩ (.bool true)).setCell ⟨g, 12, none⟩ (.int .i64 xf)).cell? ⟨g, 13, none⟩ = some u := ⟨_, cell_lt' (i := 13) hg6 (by simp; omega)⟩
        have f3 := blk_frozen hg6 13
        have hg7 := blk_set hg6 13 (.int .i64 xt)
        have hk7 := hk6.setCell (p := ⟨g, 13, none⟩) (fun _ => rfl) (.int .i64 xt)
        clear hg4 hk4 hg5 hk5 hg6 hk6
        obtain ⟨u4, c4⟩ : ∃ u, (((w4.setCell ⟨g, 11, none⟩ (.bool true)).setCell ⟨g, 12, none⟩ (.int .i64 xf)).setCell ⟨g, 13, none⟩ (.int .i64 xt)).cell? ⟨g, 13, none⟩ = some u := ⟨_, cell_lt' (i := 13) hg7 (by simp; omega)⟩
        have f4 := blk_frozen hg7 13
        have hg8 := blk_set hg7 13 (.int .i64 (-1))
        rw [set_thirteen] at hg8
        have hk8 := hk7.setCell (p := ⟨g, 13, none⟩) (fun _ => rfl) (.int .i64 (-1))
        clear hg7 hk7
        go_wp2
        go_ret
        exact ⟨rfl, hg8, hk8⟩
      · have hb1 := empty_ne b hb
        rw [if_neg hb]
        clear hb
        obtain ⟨hb1, hb2⟩ := hb1
        cases one
        · simp only [Bool.false_and]
          go_enter Tryd.func37, Tryd.ntmps37
          go_wp2_with fail
          refine hpre.mono ?_
          clear hpre
          rintro e w1 ⟨rfl, ⟨q1, rfl⟩⟩
          go_wp2_with fail
          refine (hcut _).mono ?_
          clear hcut
          rintro e w2 ⟨rfl, q2, rfl⟩
          have hg2 : ((w.drewN q1).drewN q2).heap[g]? = some (.cells cs 26 (0, 0)) := hg
          have hk2 : Keeps (fun k => k = g) w ((w.drewN q1).drewN q2) := ((Keeps.refl _ w).drewN q1).drewN q2
          generalize (w.drewN q1).drewN q2 = w2 at hg2 hk2 ⊢
          go_wp2_with fail
          refine (hna _).mono ?_
          clear hna
          rintro e w3 ⟨rfl, hb3⟩
          have hg3 := blk_below hg2 hb3
          have hk3 := hk2.thenBelow hb3
          clear hg2 hk2 hb3
          go_wp2_with fail
          refine (hnb _).mono ?_
          clear hnb
          rintro e w4 ⟨rfl, hb4⟩
          have hg4 := blk_below hg3 hb4
          have hk4 := hk3.thenBelow hb4
          clear hg3 hk3 hb4
          obtain ⟨u1, c1⟩ : ∃ u, w4.cell? ⟨g, 11, none⟩ = some u := ⟨_, cell_lt' (i := 11) hg4 (by omega)⟩
          have f1 := blk_frozen hg4 11
          have hg5 := blk_set hg4 11 (.bool true)
          have hk5 := hk4.setCell (p := ⟨g, 11, none⟩) (fun _ => rfl) (.bool true)
          obtain ⟨u2, c2⟩ : ∃ u, (w4.setCell ⟨g, 11, none⟩ (.bool true)).cell? ⟨g, 12, none⟩ = some u := ⟨_, cell_lt' (i := 12) hg5 (by simp; omega)⟩
          have f2 := blk_frozen hg5 12
          have hg6 := blk_set hg5 12 (.int .i64 xf)
          have hk6 := hk5.setCell (p := ⟨g, 12, none⟩) (fun _ => rfl) (.int .i64 xf)
          obtain ⟨u3, c3⟩ : ∃ u, ((w4.setCell ⟨g, 11, none⟩ (.bool true)).setCell ⟨g, 12, none⟩ (.int .i64 xf)).cell? ⟨g, 13, none⟩ = some u := ⟨_, cell_lt' (i := 13) hg6 (by simp; omega)⟩
          have f3 := blk_frozen hg6 13
          have hg7 := blk_set hg6 13 (.int .i64 xt)
          have hk7 := hk6.setCell (p := ⟨g, 13, none⟩) (fun _ => rfl) (.int .i64 xt)
          clear hg4 hk4 hg5 hk5 hg6 hk6
          go_wp2
          go_ret
          exact ⟨rfl, hg7, hk7⟩
        · cases two
          · simp only [Bool.false_and, Bool.true_and]
            go_enter Tryd.func37, Tryd.ntmps37
            go_wp2_with fail
            refine hpre.mono ?_
            clear hpre
            rintro e w1 ⟨rfl, ⟨q1, rfl⟩⟩
            go_wp2_with fail
            refine (hcut _).mono ?_
            clear hcut
            rintro e w2 ⟨rfl, q2, rfl⟩
            have hg2 : ((w.drewN q1).drewN q2).heap[g]? = some (.cells cs 26 (0, 0)) := hg
            have hk2 : Keeps (fun k => k = g) w ((w.drewN q1).drewN q2) := ((Keeps.refl _ w).drewN q1).drewN q2
            generalize (w.drewN q1).drewN q2 = w2 at hg2 hk2 ⊢
            go_wp2_with fail
            refine (hna _).mono ?_
            clear hna
            rintro e w3 ⟨rfl, hb3⟩
            have hg3 := blk_below hg2 hb3
            have hk3 := hk2.thenBelow hb3
            clear hg2 hk2 hb3
            go_wp2_with fail
            refine (hnb _).mono ?_
            clear hnb
            rintro e w4 ⟨rfl, hb4⟩
            have hg4 := blk_below hg3 hb4
            have hk4 := hk3.thenBelow hb4
            clear hg3 hk3 hb4
            obtain ⟨u1, c1⟩ : ∃ u, w4.cell? ⟨g, 11, none⟩ = some u := ⟨_, cell_lt' (i := 11) hg4 (by omega)⟩
            have f1 := blk_frozen hg4 11
            have hg5 := blk_set hg4 11 (.bool true)
            have hk5 := hk4.setCell (p := ⟨g, 11, none⟩) (fun _ => rfl) (.bool true)
            obtain ⟨u2, c2⟩ : ∃ u, (w4.setCell ⟨g, 11, none⟩ (.bool true)).cell? ⟨g, 12, none⟩ = some u := ⟨_, cell_lt' (i := 12) hg5 (by simp; omega)⟩
            have f2 := blk_frozen hg5 12
            have hg6 := blk_set hg5 12 (.int .i64 xf)
            have hk6 := hk5.setCell (p := ⟨g, 12, none⟩) (fun _ => rfl) (.int .i64 xf)
            obtain ⟨u3, c3⟩ : ∃ u, ((w4.setCell ⟨g, 11, none⟩ (.bool true)).setCell ⟨g, 12, none⟩ (.int .i64 xf)).cell? ⟨g, 13, none⟩ = some u := ⟨_, cell_lt' (i := 13) hg6 (by simp; omega)⟩
            have f3 := blk_frozen hg6 13
            have hg7 := blk_set hg6 13 (.int .i64 xt)
            have hk7 := hk6.setCell (p := ⟨g, 13, none⟩) (fun _ => rfl) (.int .i64 xt)
            clear hg4 hk4 hg5 hk5 hg6 hk6
            go_wp2
            go_ret
            exact ⟨rfl, hg7, hk7⟩
          · by_cases hp : xf ≤ xt
            · have hd : decide (xf ≤ xt) = true := decide_eq_true hp
              simp only [hd, Bool.true_and]
              go_enter Tryd.func37, Tryd.ntmps37
              go_wp2_with fail
              refine hpre.mono ?_
              clear hpre
              rintro e w1 ⟨rfl, ⟨q1, rfl⟩⟩
              go_wp2_with fail
              refine (hcut _).mono ?_
              clear hcut
              rintro e w2 ⟨rfl, q2, rfl⟩
              have hg2 : ((w.drewN q1).drewN q2).heap[g]? = some (.cells cs 26 (0, 0)) := hg
              have hk2 : Keeps (fun k => k = g) w ((w.drewN q1).drewN q2) := ((Keeps.refl _ w).drewN q1).drewN q2
              generalize (w.drewN q1).drewN q2 = w2 at hg2 hk2 ⊢
              go_wp2_with fail
              refine (hna _).mono ?_
              clear hna
              rintro e w3 ⟨rfl, hb3⟩
              have hg3 := blk_below hg2 hb3
              have hk3 := hk2.thenBelow hb3
              clear hg2 hk2 hb3
              go_wp2_with fail
              refine (hnb _).mono ?_
              clear hnb
              rintro e w4 ⟨rfl, hb4⟩
              have hg4 := blk_below hg3 hb4
              have hk4 := hk3.thenBelow hb4
              clear hg3 hk3 hb4
              obtain ⟨u1, c1⟩ : ∃ u, w4.cell? ⟨g, 11, none⟩ = some u := ⟨_, cell_lt' (i := 11) hg4 (by omega)⟩
              have f1 := blk_frozen hg4 11
              have hg5 := blk_set hg4 11 (.bool true)
              have hk5 := hk4.setCell (p := ⟨g, 11, none⟩) (fun _ => rfl) (.bool true)
              obtain ⟨u2, c2⟩ : ∃ u, (w4.setCell ⟨g, 11, none⟩ (.bool true)).cell? ⟨g, 12, none⟩ = some u := ⟨_, cell_lt' (i := 12) hg5 (by simp; omega)⟩
              have f2 := blk_frozen hg5 12
              have hg6 := blk_set hg5 12 (.int .i64 xf)
              have hk6 := hk5.setCell (p := ⟨g, 12, none⟩) (fun _ => rfl) (.int .i64 xf)
              obtain ⟨u3, c3⟩ : ∃ u, ((w4.setCell ⟨g, 11, none⟩ (.bool true)).setCell ⟨g, 12, none⟩ (.int .i64 xf)).cell? ⟨g, 13, none⟩ = some u := ⟨_, cell_lt' (i := 13) hg6 (by simp; omega)⟩
              have f3 := blk_frozen hg6 13
              have hg7 := blk_set hg6 13 (.int .i64 xt)
              have hk7 := hk6.setCell (p := ⟨g, 13, none⟩) (fun _ => rfl) (.int .i64 xt)
              clear hg4 hk4 hg5 hk5 hg6 hk6
              go_wp2
              go_ret
              exact ⟨rfl, hg7, hk7⟩
            · have hd : decide (xf ≤ xt) = false := decide_eq_false hp
              simp only [hd, Bool.true_and]
              go_enter Tryd.func37, Tryd.ntmps37
              go_wp2_with fail
              refine hpre.mono ?_
              clear hpre
              rintro e w1 ⟨rfl, ⟨q1, rfl⟩⟩
              go_wp2_with fail
              refine (hcut _).mono ?_
              clear hcut
              rintro e w2 ⟨rfl, q2, rfl⟩
              have hg2 : ((w.drewN q1).drewN q2).heap[g]? = some (.cells cs 26 (0, 0)) := hg
              have hk2 : Keeps (fun k => k = g) w ((w.drewN q1).drewN q2) := ((Keeps.refl _ w).drewN q1).drewN q2
              generalize (w.drewN q1).drewN q2 = w2 at hg2 hk2 ⊢
              go_wp2_with fail
              refine (hna _).mono ?_
              clear hna
              rintro e w3 ⟨rfl, hb3⟩
              have hg3 := blk_below hg2 hb3
              have hk3 := hk2.thenBelow hb3
              clear hg2 hk2 hb3
              go_wp2_with fail
              refine (hnb _).mono ?_
              clear hnb
              rintro e w4 ⟨rfl, hb4⟩
              have hg4 := blk_below hg3 hb4
              have hk4 := hk3.thenBelow hb4
              clear hg3 hk3 hb4
              obtain ⟨u1, c1⟩ : ∃ u, w4.cell? ⟨g, 11, none⟩ = some u := ⟨_, cell_lt' (i := 11) hg4 (by omega)⟩
              have f1 := blk_frozen hg4 11
              have hg5 := blk_set hg4 11 (.bool true)
              have hk5 := hk4.setCell (p := ⟨g, 11, none⟩) (fun _ => rfl) (.bool true)
              obtain ⟨u2, c2⟩ : ∃ u, (w4.setCell ⟨g, 11, none⟩ (.bool true)).cell? ⟨g, 12, none⟩ = some u := ⟨_, cell_lt' (i := 12) hg5 (by simp; omega)⟩
              have f2 := blk_frozen hg5 12
              have hg6 := blk_set hg5 12 (.int .i64 xf)
              have hk6 := hk5.setCell (p := ⟨g, 12, none⟩) (fun _ => rfl) (.int .i64 xf)
              obtain ⟨u3, c3⟩ : ∃ u, ((w4.setCell ⟨g, 11, none⟩ (.bool true)).setCell ⟨g, 12, none⟩ (.int .i64 xf)).cell? ⟨g, 13, none⟩ = some u := ⟨_, cell_lt' (i := 13) hg6 (by simp; omega)⟩
              have f3 := blk_frozen hg6 13
              have hg7 := blk_set hg6 13 (.int .i64 xt)
              have hk7 := hk6.setCell (p := ⟨g, 13, none⟩) (fun _ => rfl) (.int .i64 xt)
              clear hg4 hk4 hg5 hk5 hg6 hk6
              go_wp2
              go_ret
              exact ⟨rfl, hg7, hk7⟩
  · rw [if_neg hod]
    have hways : ok = false ∨ (ok = true ∧ dash = false) := by cases ok <;> cases dash <;> simp_all
    clear hod hna hnb
    rcases hways with rfl | ⟨rfl, rfl⟩
    all_goals (
      go_enter Tryd.func37, Tryd.ntmps37
      go_wp2_with fail
      refine hpre.mono ?_
      clear hpre
      rintro e w1 ⟨rfl, ⟨q1, rfl⟩⟩
      go_wp2_with fail
      refine (hcut _).mono ?_
      clear hcut
      rintro e w2 ⟨rfl, q2, rfl⟩
      have hg1 : ((w.drewN q1).drewN q2).heap[g]? = some (.cells cs 26 (0, 0)) := hg
      have hk1 : Keeps (fun k => k = g) w ((w.drewN q1).drewN q2) := ((Keeps.refl _ w).drewN q1).drewN q2
      go_wp2
      go_ret
      exact ⟨rfl, hg, (Keeps.refl _ w).drewN _⟩)
end Go.Proofs.YtehibiplodjofaaDoor
end
