/- Texts of this proof, put together: Rq29, RqA, RqB, RqC, RqD, RqE, RqF. -/
import Derived.Test.YtehibiplodjofaaDoorMRouteAboutB
import Derived.Lib.Bytes
section
/- route.beside, kind by kind (printed by wip/gen_rq29.py). -/
namespace Go.Proofs.YtehibiplodjofaaDoor
open Go.RowKit Go.Proofs.YtehibiplodjofaaDoorW.PrintWords Go.Proofs.YtehibiplodjofaaDoorW.PrintLast Go.Proofs.YtehibiplodjofaaDoorW.PrintMore
set_option linter.unusedVariables false
set_option linter.unusedSimpArgs false
theorem pget_l0 (l : List PairT) (n : ByteArray) (hl : l.length ≤ 1000000) : ∀ (d k j : Nat), j + d = l.length → d < k → Pr.request_Get.l0 k n l (l.length : Int) (j : Int) = some (findP n (l.drop j))
  | d, 0, j, _, h => by omega
  | 0, k + 1, j, hj, _ => by
    simp only [Pr.request_Get.l0]
    rw [if_neg (by omega), List.drop_of_length_le (by omega)]
    rfl
  | d + 1, k + 1, j, hj, hk => by
    simp only [Pr.request_Get.l0]
    rw [if_pos (by omega), if_pos (by omega), if_pos (by omega), rd_at l j (by omega), List.drop_eq_getElem_cons (by omega : j < l.length), findP]
    split
    · rfl
    · rw [wrap_up j l.length (by omega) hl]
      exact pget_l0 l n hl d k (j + 1) (by omega) (by omega)
theorem get_any (m t : ByteArray) (AH : Option Addr) (cH : Nat) (hs : List PairT) (AB : Option Addr) (cB : Nat) (bn : List Int) (n : ByteArray) (w : World) (hH : Kd.C Pr.k41 w AH hs.length hs) (hcH : hs.length ≤ cH) (hB : Kd.C (Kd.int .u8) w AB bn.length bn) (hcB : bn.length ≤ cB) (hl : hs.length ≤ 1000) :
    Calls Tryd.prog 36 #[.agg #[.string m, .string t, .slice AH hs.length cH, .slice AB bn.length cB], .string n] w fun e w' => e = .returned (.tuple #[.string (findP n hs).1, .bool (findP n hs).2]) ∧ Below w.heap.size w w' :=
  Pr.request_Get.calls 1001 m t AH cH hs AB cB bn n (findP n hs).1 (findP n hs).2 w hH hcH hB hcB (by
    have := pget_l0 hs n (by omega) hs.length 1001 0 (by omega) (by omega)
    simpa [Pr.request_Get.f] using this)
structure ReqIn (w : World) (g : Nat) (AH : Option Addr) (cH : Nat) (hs : List PairT) (AB : Option Addr) (cB : Nat) (bn : List Int) : Prop where
  lenH : hs.length ≤ 1000
  capH : hs.length ≤ cH
  capB : bn.length ≤ cB
  lenB : bn.length ≤ 1000000
  H : ∀ W, Keeps (fun k => k = g) w W → Kd.C Pr.k41 W AH hs.length hs
  B : ∀ W, Keeps (fun k => k = g) w W → Kd.C (Kd.int .u8) W AB bn.length bn
  S : ∀ W, Keeps (fun k => k = g) w W → Go.Src Tryd.prog 1 24 (.slice AB bn.length cB) (Lib.bytesOf bn).length (Lib.byteCells (Lib.bytesOf bn)) W
  ok : (Lib.bytesOf bn).length = bn.length
def BesQ (w : World) (g : Nat) (body : List UInt8) (r : CallP × Bool) (e : Ending) (w' : World) : Prop :=
  ∃ bv, e = .returned (.bool r.2) ∧ w'.heap[g]? = some (.cells (callV r.1 bv) 26 (0, 0)) ∧ OwnB w' w.heap.size 5 bv body ∧ Keeps (fun k => k = g) w w'
-- PRINTED FROM HERE
def rangedU (c : CallP) : Option (Int × Int) → CallP
  | none => c
  | some (x, y) => { c with ranged := true, frm := x, til := y }
theorem rangedU_cells (c : CallP) (b : Value) (o : Option (Int × Int)) : rangedC (callV c b) o = callV (rangedU c o) b := by cases o <;> rfl
theorem rangedU_kind (c : CallP) (o : Option (Int × Int)) : (rangedU c o).kind = c.kind := by cases o <;> rfl
theorem Bes.grownV {w0 w w' : World} {g : Nat} {rq : Array Value} {l : List PairT} {cs : Array Value} {f : Bool} (h : Bes w0 w g rq l cs f) (hg : w.grownBy w' (Value.slice none 0 0).ownBlock) : Bes w0 w' g rq l cs f :=
  h.step (blk_grown h.hg hg (by simp [Value.ownBlock])) (blk_grown h.hF hg (by simp [Value.ownBlock])) ((Keeps.refl _ w).grown hg (fun k hk => by simp [Value.ownBlock] at hk))
def besPage (c : CallP) (l : List PairT) : CallP × Bool :=
  let m := findP (⟨#[109, 97, 120, 45, 107, 101, 121, 115]⟩ : ByteArray) l
  let t := findP (⟨#[99, 111, 110, 116, 105, 110, 117, 97, 116, 105, 111, 110, 45, 116, 111, 107, 101, 110]⟩ : ByteArray) l
  let c1 := { c with pre := (findP (⟨#[112, 114, 101, 102, 105, 120]⟩ : ByteArray) l).1, delim := (findP (⟨#[100, 101, 108, 105, 109, 105, 116, 101, 114]⟩ : ByteArray) l).1, most := countN 1000 m }
  if t.2 then ({ c1 with aft := (Pr.readR t.1).1, behind := (Pr.readR t.1).2.1 }, countOk true 1000 m && decide ((Pr.readR t.1).2.2 = 0))
  else (if c.kind = 5 then { c1 with aft := (findP (⟨#[115, 116, 97, 114, 116, 45, 97, 102, 116, 101, 114]⟩ : ByteArray) l).1 } else c1, countOk true 1000 m)
def besVer (c : CallP) (l : List PairT) : CallP × Bool := ({ c with version := (findP (⟨#[118, 101, 114, 115, 105, 111, 110, 73, 100]⟩ : ByteArray) l).1 }, idOk true (findP (⟨#[118, 101, 114, 115, 105, 111, 110, 73, 100]⟩ : ByteArray) l))
def besGet (c : CallP) (l hs : List PairT) : CallP × Bool :=
  let r := findP (⟨#[114, 97, 110, 103, 101]⟩ : ByteArray) hs
  if r.2 then (rangedU (besVer c l).1 (rangedP r.1).2, (rangedP r.1).1 && (besVer c l).2) else besVer c l
def besUp (c : CallP) (l : List PairT) : CallP × Bool := ({ c with upload := (findP (⟨#[117, 112, 108, 111, 97, 100, 73, 100]⟩ : ByteArray) l).1 }, idOk true (findP (⟨#[117, 112, 108, 111, 97, 100, 73, 100]⟩ : ByteArray) l))
def besPart (c : CallP) (l : List PairT) : CallP × Bool :=
  let n := findP (⟨#[112, 97, 114, 116, 78, 117, 109, 98, 101, 114]⟩ : ByteArray) l
  ({ (besUp c l).1 with part := countN 0 n }, countOk (besUp c l).2 10000 n && decide (0 < countN 0 n))
theorem findP_size (n : ByteArray) (B : Nat) : ∀ l : List PairT, (∀ q ∈ l, q.f1.size ≤ B) → (findP n l).1.size ≤ B
  | [], _ => Nat.zero_le _
  | q :: r, h => by
    unfold findP
    split
    · exact h q (by simp)
    · exact findP_size n B r fun x hx => h x (by simp [hx])
theorem readR_any (s : ByteArray) (hs : s.size ≤ 1000000) (w : World) : Calls Tryd.prog 35 #[.string s] w fun e w' => e = .returned (.tuple #[.string (Pr.readR s).1, .string (Pr.readR s).2.1, .int .i64 (Pr.readR s).2.2]) ∧ Below w.heap.size w w' :=
  Pr.token_Read.calls s _ _ _ w (by unfold Pr.token_Read.f; rw [if_pos hs])
end Go.Proofs.YtehibiplodjofaaDoor
end
section
/- route.beside at some kinds (printed by wip/gen_rq29.py). -/
namespace Go.Proofs.YtehibiplodjofaaDoor
open Go.RowKit Go.Proofs.YtehibiplodjofaaDoorW.PrintWords Go.Proofs.YtehibiplodjofaaDoorW.PrintLast Go.Proofs.YtehibiplodjofaaDoorW.PrintMore
set_option linter.unusedVariables false
set_option linter.unusedSimpArgs false
set_option maxHeartbeats 8000000 in
set_option maxRecDepth 10000 in
theorem beside_5 (c : CallP) (g : Nat) (m t : ByteArray) (AH : Option Addr) (cH : Nat) (hs : List PairT) (AB : Option Addr) (cB : Nat) (bn : List Int) (A : Option Addr) (cA : Nat) (l : List PairT) (w : World) (hkind : c.kind = 5)
    (hg : w.heap[g]? = some (.cells (callV c (.slice none 0 0)) 26 (0, 0))) (hl : l.length ≤ 32) (hls : ∀ q ∈ l, q.f1.size ≤ 1000000) (hC : Kd.C Pr.k41 w A l.length l) (hcA : l.length ≤ cA) (hA : ∀ ad, A = some ad → 0 < l.length → ad.block ≠ g ∧ ad.block < w.heap.size)
    (hq : ReqIn w g AH cH hs AB cB bn) (hhs : ∀ q ∈ hs, q.f1.size ≤ 1000000) :
    Calls Tryd.prog 21 #[.pointer (some ⟨g, 0, none⟩), .agg #[.string m, .string t, .slice AH hs.length cH, .slice AB bn.length cB], .slice A l.length cA] w (BesQ w g [] (besPage c l)) := by
  have hb0 := Bes.start (rq := #[.string m, .string t, .slice AH hs.length cH, .slice AB bn.length cB]) hg hl hC hcA hA
  have hlt := hb0.lt
  clear hC hcA hA
  have hst := store_fn (P := Tryd.prog) (w.heap.size + 1 + 1 + 1) (textFn (w.heap.size + 1)) rfl
  unfold textFn at hb0 hst
  generalize hres : besPage c l = res
  replace hres := Lib.hid hres
  go_enter Tryd.func21, Tryd.ntmps21
  go_upto_region 5 with (fail)
  generalize (((w.alloc (.cells #[.string m, .string t, .slice AH hs.length cH, .slice AB bn.length cB] 31)).alloc (.cells #[.slice A l.length cA] 29)).alloc (.cells #[.bool true] 4)).alloc (.cells #[.func (.func 31) #[] #[.pointer (some ⟨w.heap.size + 1, 0, none⟩)]] 73) = W0 at hb0 ⊢
  clear hst
  obtain ⟨c0, hc0⟩ : ∃ c0, c0 = c := ⟨c, rfl⟩
  rw [← hc0] at hb0
  have hk0 : c0.kind = 5 := by rw [hc0]; exact hkind
  have HC0 := Lib.hid hc0
  clear hc0 hkind hg
  generalize hf0 : true = f0 at hb0
  replace hf0 := Lib.hid hf0
  have ck := hb0.c 0 (u := .int .i64 5) (by show some (Value.int .i64 c0.kind) = _; rw [hk0])
  have cX := hb0.cX
  go_upto_region 8 with (fail)
  go_still_tail 4, (by kernel_rfl)
  change wpList _ _ _ _ _ W0.drew
  replace hb0 := hb0.drew
  clear ck cX
  generalize W0.drew = W0 at hb0 ⊢
  have ck := hb0.c 0 (u := .int .i64 5) (by show some (Value.int .i64 c0.kind) = _; rw [hk0])
  go_wp2_with fail
  refine (btext_any (⟨#[112, 114, 101, 102, 105, 120]⟩ : ByteArray) g 6 _ _ l _ hb0.hg (by show 6 < 15; decide) _ hb0.hP).mono ?_
  rintro e W1 ⟨rfl, h1, h3⟩
  have h2 : W1.heap[w.heap.size + 1 + 1]? = some (.cells #[.bool f0] 4 (0, 0)) := (h3.block _ (blk_lt hb0.hF) (by omega)).trans hb0.hF
  replace h3 := h3.mono (S' := fun k => k = g ∨ k = w.heap.size + 1 + 1) fun _ _ h => .inl h
  have hb1 := hb0.step (cs' := callV { c0 with pre := (findP (⟨#[112, 114, 101, 102, 105, 120]⟩ : ByteArray) l).1 } (.slice none 0 0)) h1 h2 h3
  generalize hc1 : { c0 with pre := (findP (⟨#[112, 114, 101, 102, 105, 120]⟩ : ByteArray) l).1 } = c1 at hb1
  have hk1 : c1.kind = 5 := by rw [← hc1]; exact hk0
  have HC1 := Lib.hid hc1
  clear hc1 hk0
  obtain ⟨f1, hf1⟩ : ∃ x, f0 = x := ⟨_, rfl⟩
  rw [hf1] at hb1
  replace hf1 := Lib.hid hf1
  clear hb0 ck
  have ck := hb1.c 0 (u := .int .i64 5) (by show some (Value.int .i64 c1.kind) = _; rw [hk1])
  clear h1 h2 h3
  have cX := hb1.cX
  go_upto_region 9 with (fail)
  go_still_tail 4, (by kernel_rfl)
  change wpList _ _ _ _ _ W1.drew
  replace hb1 := hb1.drew
  clear ck cX
  generalize W1.drew = W1 at hb1 ⊢
  have ck := hb1.c 0 (u := .int .i64 5) (by show some (Value.int .i64 c1.kind) = _; rw [hk1])
  go_wp2_with fail
  refine (btext_any (⟨#[100, 101, 108, 105, 109, 105, 116, 101, 114]⟩ : ByteArray) g 7 _ _ l _ hb1.hg (by show 7 < 15; decide) _ hb1.hP).mono ?_
  rintro e W2 ⟨rfl, h1, h3⟩
  have h2 : W2.heap[w.heap.size + 1 + 1]? = some (.cells #[.bool f1] 4 (0, 0)) := (h3.block _ (blk_lt hb1.hF) (by omega)).trans hb1.hF
  replace h3 := h3.mono (S' := fun k => k = g ∨ k = w.heap.size + 1 + 1) fun _ _ h => .inl h
  have hb2 := hb1.step (cs' := callV { c1 with delim := (findP (⟨#[100, 101, 108, 105, 109, 105, 116, 101, 114]⟩ : ByteArray) l).1 } (.slice none 0 0)) h1 h2 h3
  generalize hc2 : { c1 with delim := (findP (⟨#[100, 101, 108, 105, 109, 105, 116, 101, 114]⟩ : ByteArray) l).1 } = c2 at hb2
  have hk2 : c2.kind = 5 := by rw [← hc2]; exact hk1
  have HC2 := Lib.hid hc2
  clear hc2 hk1
  obtain ⟨f2, hf2⟩ : ∃ x, f1 = x := ⟨_, rfl⟩
  rw [hf2] at hb2
  replace hf2 := Lib.hid hf2
  clear hb1 ck
  have ck := hb2.c 0 (u := .int .i64 5) (by show some (Value.int .i64 c2.kind) = _; rw [hk2])
  clear h1 h2 h3
  go_wp2_with fail
  refine (count_any (⟨#[109, 97, 120, 45, 107, 101, 121, 115]⟩ : ByteArray) g 10 _ 1000 1000 _ _ f2 l _ hb2.hg (by show 10 < 15; decide) _ hb2.hP (Or.inl rfl) hb2.hF).mono ?_
  rintro e W3 ⟨rfl, h1, h2, h3⟩
  have hb3 := hb2.step (cs' := callV { c2 with most := countN 1000 (findP (⟨#[109, 97, 120, 45, 107, 101, 121, 115]⟩ : ByteArray) l) } (.slice none 0 0)) h1 h2 h3
  generalize hc3 : { c2 with most := countN 1000 (findP (⟨#[109, 97, 120, 45, 107, 101, 121, 115]⟩ : ByteArray) l) } = c3 at hb3
  have hk3 : c3.kind = 5 := by rw [← hc3]; exact hk2
  have HC3 := Lib.hid hc3
  clear hc3 hk2
  generalize hf3 : countOk f2 1000 (findP (⟨#[109, 97, 120, 45, 107, 101, 121, 115]⟩ : ByteArray) l) = f3 at hb3
  replace hf3 := Lib.hid hf3
  clear hb2 ck
  have ck := hb3.c 0 (u := .int .i64 5) (by show some (Value.int .i64 c3.kind) = _; rw [hk3])
  clear h1 h2 h3
  obtain ⟨A', c', hP1, hP2, hP3, -⟩ := hb3.hP.at_
  have cP : W3.cell? ⟨w.heap.size + 1, 0, none⟩ = some (.slice A' l.length c') := by rw [blk_cell hP1]; rfl
  go_wp2_with fail
  refine (find_any (⟨#[99, 111, 110, 116, 105, 110, 117, 97, 116, 105, 111, 110, 45, 116, 111, 107, 101, 110]⟩ : ByteArray) A' c' l hl _ hP2 hP3).mono ?_
  clear hP1 hP2 hP3 cP
  have hts := findP_size (⟨#[99, 111, 110, 116, 105, 110, 117, 97, 116, 105, 111, 110, 45, 116, 111, 107, 101, 110]⟩ : ByteArray) 1000000 l hls
  generalize ht : findP (⟨#[99, 111, 110, 116, 105, 110, 117, 97, 116, 105, 111, 110, 45, 116, 111, 107, 101, 110]⟩ : ByteArray) l = tk at hts ⊢
  replace ht := Lib.hid ht
  obtain ⟨ts, it⟩ := tk
  simp only at hts ⊢
  rintro e W ⟨rfl, hbw⟩
  replace hb3 := hb3.below hbw
  clear hbw ck
  have ck := hb3.c 0 (u := .int .i64 5) (by show some (Value.int .i64 c3.kind) = _; rw [hk3])
  cases it
  · as_aux_lemma =>
    have cX := hb3.cX
    go_upto_region 17 with (fail)
    go_still_tail 4, (by kernel_rfl)
    change wpList _ _ _ _ _ W.drew
    replace hb3 := hb3.drew
    clear ck cX
    generalize W.drew = W at hb3 ⊢
    have ck := hb3.c 0 (u := .int .i64 5) (by show some (Value.int .i64 c3.kind) = _; rw [hk3])
    go_wp2_with fail
    refine (btext_any (⟨#[115, 116, 97, 114, 116, 45, 97, 102, 116, 101, 114]⟩ : ByteArray) g 8 _ _ l _ hb3.hg (by show 8 < 15; decide) _ hb3.hP).mono ?_
    rintro e W4 ⟨rfl, h1, h3⟩
    have h2 : W4.heap[w.heap.size + 1 + 1]? = some (.cells #[.bool f3] 4 (0, 0)) := (h3.block _ (blk_lt hb3.hF) (by omega)).trans hb3.hF
    replace h3 := h3.mono (S' := fun k => k = g ∨ k = w.heap.size + 1 + 1) fun _ _ h => .inl h
    have hb4 := hb3.step (cs' := callV { c3 with aft := (findP (⟨#[115, 116, 97, 114, 116, 45, 97, 102, 116, 101, 114]⟩ : ByteArray) l).1 } (.slice none 0 0)) h1 h2 h3
    generalize hc4 : { c3 with aft := (findP (⟨#[115, 116, 97, 114, 116, 45, 97, 102, 116, 101, 114]⟩ : ByteArray) l).1 } = c4 at hb4
    have hk4 : c4.kind = 5 := by rw [← hc4]; exact hk3
    have HC4 := Lib.hid hc4
    clear hc4 hk3
    obtain ⟨f4, hf4⟩ : ∃ x, f3 = x := ⟨_, rfl⟩
    rw [hf4] at hb4
    replace hf4 := Lib.hid hf4
    clear hb3 ck
    have ck := hb4.c 0 (u := .int .i64 5) (by show some (Value.int .i64 c4.kind) = _; rw [hk4])
    clear h1 h2 h3
    have r0 := hb4.cR 0 (u := .string m) rfl
    have r1 := hb4.cR 1 (u := .string t) rfl
    have r2 := hb4.cR 2 (u := .slice AH hs.length cH) rfl
    have r3 := hb4.cR 3 (u := .slice AB bn.length cB) rfl
    go_wp2_with fail
    refine (get_any m t AH cH hs AB cB bn (⟨#[114, 97, 110, 103, 101]⟩ : ByteArray) _ (hq.H _ hb4.hk) hq.capH (hq.B _ hb4.hk) hq.capB hq.lenH).mono ?_
    have hrs := findP_size (⟨#[114, 97, 110, 103, 101]⟩ : ByteArray) 1000000 hs hhs
    generalize hr : findP (⟨#[114, 97, 110, 103, 101]⟩ : ByteArray) hs = r at hrs ⊢
    replace hr := Lib.hid hr
    obtain ⟨rs, is⟩ := r
    simp only at hrs ⊢
    rintro e W ⟨rfl, hbw⟩
    replace hb4 := hb4.below hbw
    clear hbw ck r0 r1 r2 r3
    have ck := hb4.c 0 (u := .int .i64 5) (by show some (Value.int .i64 c4.kind) = _; rw [hk4])
    have cF := hb4.cF
    cases is
    · as_aux_lemma =>
      go_wp2
      go_ret
      refine ⟨.slice none 0 0, ?_, ?_, ownB_nil _ _ _, hb4.hk⟩
      all_goals rw [show res = (c4, f4) by rw [← hres.out]; have hkc : c.kind = 5 := (by have h := hk4; rw [← HC4.out, ← HC3.out, ← HC2.out, ← HC1.out, HC0.out] at h; exact h); simp only [besPage, ht.out, hkc, if_true, Bool.false_eq_true, if_false]; rw [show countOk true 1000 (findP (⟨#[109, 97, 120, 45, 107, 101, 121, 115]⟩ : ByteArray) l) = f3 by rw [← hf3.out, ← hf2.out, ← hf1.out, ← hf0.out], hf4.out, ← HC4.out, ← HC3.out, ← HC2.out, ← HC1.out, HC0.out] <;> simp only [hkc]]
      all_goals first | rfl | exact hb4.hg
    · as_aux_lemma =>
      go_wp2
      go_ret
      refine ⟨.slice none 0 0, ?_, ?_, ownB_nil _ _ _, hb4.hk⟩
      all_goals rw [show res = (c4, f4) by rw [← hres.out]; have hkc : c.kind = 5 := (by have h := hk4; rw [← HC4.out, ← HC3.out, ← HC2.out, ← HC1.out, HC0.out] at h; exact h); simp only [besPage, ht.out, hkc, if_true, Bool.false_eq_true, if_false]; rw [show countOk true 1000 (findP (⟨#[109, 97, 120, 45, 107, 101, 121, 115]⟩ : ByteArray) l) = f3 by rw [← hf3.out, ← hf2.out, ← hf1.out, ← hf0.out], hf4.out, ← HC4.out, ← HC3.out, ← HC2.out, ← HC1.out, HC0.out] <;> simp only [hkc]]
      all_goals first | rfl | exact hb4.hg
  · as_aux_lemma =>
    go_wp2_with fail
    refine (readR_any ts hts _).mono ?_
    generalize hrd : Pr.readR ts = rd at ⊢
    replace hrd := Lib.hid hrd
    obtain ⟨ra, rb, re⟩ := rd
    simp only
    rintro e V ⟨rfl, hbw⟩
    replace hb3 := hb3.below hbw
    clear hbw ck
    have c8 := hb3.c 8 (u := .string c3.aft) rfl
    have f8 := hb3.fz 8
    have hb4 := hb3.set 8 (.string ra)
    have c9 := hb4.c 9 (u := .string c3.behind) rfl
    have f9 := hb4.fz 9
    have hb5 := hb4.set 9 (.string rb)
    have cF := hb5.cF
    have fF := hb5.fF
    have hb6 := hb5.setF (f3 && decide (re = 0))
    clear hb3 hb4
    have hcut : f3 = false ∨ (f3 = true ∧ re = 0) ∨ (f3 = true ∧ ¬ re = 0) := by cases f3 <;> by_cases h : re = 0 <;> simp [h]
    rcases hcut with hF | ⟨hF, hpos⟩ | ⟨hF, hpos⟩
    · as_aux_lemma =>
      rw [hF] at cF
      have HF := Lib.hid (show (f3 && decide (re = 0)) = false by rw [hF]; rfl)
      rw [HF.out] at hb6
      have ck6 := hb6.c 0 (u := .int .i64 5) (by show some (Value.int .i64 c3.kind) = _; rw [hk3])
      clear hF
      go_upto_region 30 with (fail)
      generalize ((V.setCell ⟨g, 8, none⟩ (.string ra)).setCell ⟨g, 9, none⟩ (.string rb)).setCell ⟨w.heap.size + 1 + 1, 0, none⟩ (.bool false) = W4 at hb6 ck6 ⊢
      clear c8 f8 c9 f9 cF fF hb5
      have hb4 : Bes w W4 g _ l (callV { c3 with aft := ra, behind := rb } (.slice none 0 0)) false := hb6
      generalize hc4 : ({ c3 with aft := ra, behind := rb } : CallP) = c4 at hb4
      have hk4 : c4.kind = 5 := by rw [← hc4]; exact hk3
      have HC4 := Lib.hid hc4
      have ck := ck6
      clear hc4 hk3 hb6 ck6
      obtain ⟨f4, hf4⟩ : ∃ x : Bool, false = x := ⟨_, rfl⟩
      rw [hf4] at hb4
      replace hf4 := Lib.hid hf4
      have r0 := hb4.cR 0 (u := .string m) rfl
      have r1 := hb4.cR 1 (u := .string t) rfl
      have r2 := hb4.cR 2 (u := .slice AH hs.length cH) rfl
      have r3 := hb4.cR 3 (u := .slice AB bn.length cB) rfl
      go_wp2_with fail
      refine (get_any m t AH cH hs AB cB bn (⟨#[114, 97, 110, 103, 101]⟩ : ByteArray) _ (hq.H _ hb4.hk) hq.capH (hq.B _ hb4.hk) hq.capB hq.lenH).mono ?_
      have hrs := findP_size (⟨#[114, 97, 110, 103, 101]⟩ : ByteArray) 1000000 hs hhs
      generalize hr : findP (⟨#[114, 97, 110, 103, 101]⟩ : ByteArray) hs = r at hrs ⊢
      replace hr := Lib.hid hr
      obtain ⟨rs, is⟩ := r
      simp only at hrs ⊢
      rintro e W ⟨rfl, hbw⟩
      replace hb4 := hb4.below hbw
      clear hbw ck r0 r1 r2 r3
      have ck := hb4.c 0 (u := .int .i64 5) (by show some (Value.int .i64 c4.kind) = _; rw [hk4])
      have cF := hb4.cF
      cases is
      · as_aux_lemma =>
        go_wp2
        go_ret
        refine ⟨.slice none 0 0, ?_, ?_, ownB_nil _ _ _, hb4.hk⟩
        all_goals rw [show res = (c4, f4) by rw [← hres.out]; simp only [besPage, ht.out, if_true, hrd.out]; rw [show countOk true 1000 (findP (⟨#[109, 97, 120, 45, 107, 101, 121, 115]⟩ : ByteArray) l) = f3 by rw [← hf3.out, ← hf2.out, ← hf1.out, ← hf0.out], HF.out, hf4.out, ← HC4.out, ← HC3.out, ← HC2.out, ← HC1.out, HC0.out]]
        all_goals first | rfl | exact hb4.hg
      · as_aux_lemma =>
        go_wp2
        go_ret
        refine ⟨.slice none 0 0, ?_, ?_, ownB_nil _ _ _, hb4.hk⟩
        all_goals rw [show res = (c4, f4) by rw [← hres.out]; simp only [besPage, ht.out, if_true, hrd.out]; rw [show countOk true 1000 (findP (⟨#[109, 97, 120, 45, 107, 101, 121, 115]⟩ : ByteArray) l) = f3 by rw [← hf3.out, ← hf2.out, ← hf1.out, ← hf0.out], HF.out, hf4.out, ← HC4.out, ← HC3.out, ← HC2.out, ← HC1.out, HC0.out]]
        all_goals first | rfl | exact hb4.hg
    · as_aux_lemma =>
      have hd : decide (re = 0) = true := decide_eq_true hpos
      have hd' : (re == 0) = true := by rw [hpos]; rfl
      rw [hF] at cF
      have HF := Lib.hid (show (f3 && decide (re = 0)) = true by rw [hF, hd]; rfl)
      rw [HF.out] at hb6
      have ck6 := hb6.c 0 (u := .int .i64 5) (by show some (Value.int .i64 c3.kind) = _; rw [hk3])
      clear hF
      go_upto_region 30 with (fail)
      generalize ((V.setCell ⟨g, 8, none⟩ (.string ra)).setCell ⟨g, 9, none⟩ (.string rb)).setCell ⟨w.heap.size + 1 + 1, 0, none⟩ (.bool true) = W4 at hb6 ck6 ⊢
      clear c8 f8 c9 f9 cF fF hb5
      have hb4 : Bes w W4 g _ l (callV { c3 with aft := ra, behind := rb } (.slice none 0 0)) true := hb6
      generalize hc4 : ({ c3 with aft := ra, behind := rb } : CallP) = c4 at hb4
      have hk4 : c4.kind = 5 := by rw [← hc4]; exact hk3
      have HC4 := Lib.hid hc4
      have ck := ck6
      clear hc4 hk3 hb6 ck6
      obtain ⟨f4, hf4⟩ : ∃ x : Bool, true = x := ⟨_, rfl⟩
      rw [hf4] at hb4
      replace hf4 := Lib.hid hf4
      have r0 := hb4.cR 0 (u := .string m) rfl
      have r1 := hb4.cR 1 (u := .string t) rfl
      have r2 := hb4.cR 2 (u := .slice AH hs.length cH) rfl
      have r3 := hb4.cR 3 (u := .slice AB bn.length cB) rfl
      go_wp2_with fail
      refine (get_any m t AH cH hs AB cB bn (⟨#[114, 97, 110, 103, 101]⟩ : ByteArray) _ (hq.H _ hb4.hk) hq.capH (hq.B _ hb4.hk) hq.capB hq.lenH).mono ?_
      have hrs := findP_size (⟨#[114, 97, 110, 103, 101]⟩ : ByteArray) 1000000 hs hhs
      generalize hr : findP (⟨#[114, 97, 110, 103, 101]⟩ : ByteArray) hs = r at hrs ⊢
      replace hr := Lib.hid hr
      obtain ⟨rs, is⟩ := r
      simp only at hrs ⊢
      rintro e W ⟨rfl, hbw⟩
      replace hb4 := hb4.below hbw
      clear hbw ck r0 r1 r2 r3
      have ck := hb4.c 0 (u := .int .i64 5) (by show some (Value.int .i64 c4.kind) = _; rw [hk4])
      have cF := hb4.cF
      cases is
      · as_aux_lemma =>
        go_wp2
        go_ret
        refine ⟨.slice none 0 0, ?_, ?_, ownB_nil _ _ _, hb4.hk⟩
        all_goals rw [show res = (c4, f4) by rw [← hres.out]; simp only [besPage, ht.out, if_true, hrd.out]; rw [show countOk true 1000 (findP (⟨#[109, 97, 120, 45, 107, 101, 121, 115]⟩ : ByteArray) l) = f3 by rw [← hf3.out, ← hf2.out, ← hf1.out, ← hf0.out], HF.out, hf4.out, ← HC4.out, ← HC3.out, ← HC2.out, ← HC1.out, HC0.out]]
        all_goals first | rfl | exact hb4.hg
      · as_aux_lemma =>
        go_wp2
        go_ret
        refine ⟨.slice none 0 0, ?_, ?_, ownB_nil _ _ _, hb4.hk⟩
        all_goals rw [show res = (c4, f4) by rw [← hres.out]; simp only [besPage, ht.out, if_true, hrd.out]; rw [show countOk true 1000 (findP (⟨#[109, 97, 120, 45, 107, 101, 121, 115]⟩ : ByteArray) l) = f3 by rw [← hf3.out, ← hf2.out, ← hf1.out, ← hf0.out], HF.out, hf4.out, ← HC4.out, ← HC3.out, ← HC2.out, ← HC1.out, HC0.out]]
        all_goals first | rfl | exact hb4.hg
    · as_aux_lemma =>
      have hd : decide (re = 0) = false := decide_eq_false hpos
      have hd' : (re == 0) = false := by simpa using hpos
      rw [hF] at cF
      have HF := Lib.hid (show (f3 && decide (re = 0)) = false by rw [hF, hd]; rfl)
      rw [HF.out] at hb6
      have ck6 := hb6.c 0 (u := .int .i64 5) (by show some (Value.int .i64 c3.kind) = _; rw [hk3])
      clear hF
      go_upto_region 30 with (fail)
      generalize ((V.setCell ⟨g, 8, none⟩ (.string ra)).setCell ⟨g, 9, none⟩ (.string rb)).setCell ⟨w.heap.size + 1 + 1, 0, none⟩ (.bool false) = W4 at hb6 ck6 ⊢
      clear c8 f8 c9 f9 cF fF hb5
      have hb4 : Bes w W4 g _ l (callV { c3 with aft := ra, behind := rb } (.slice none 0 0)) false := hb6
      generalize hc4 : ({ c3 with aft := ra, behind := rb } : CallP) = c4 at hb4
      have hk4 : c4.kind = 5 := by rw [← hc4]; exact hk3
      have HC4 := Lib.hid hc4
      have ck := ck6
      clear hc4 hk3 hb6 ck6
      obtain ⟨f4, hf4⟩ : ∃ x : Bool, false = x := ⟨_, rfl⟩
      rw [hf4] at hb4
      replace hf4 := Lib.hid hf4
      have r0 := hb4.cR 0 (u := .string m) rfl
      have r1 := hb4.cR 1 (u := .string t) rfl
      have r2 := hb4.cR 2 (u := .slice AH hs.length cH) rfl
      have r3 := hb4.cR 3 (u := .slice AB bn.length cB) rfl
      go_wp2_with fail
      refine (get_any m t AH cH hs AB cB bn (⟨#[114, 97, 110, 103, 101]⟩ : ByteArray) _ (hq.H _ hb4.hk) hq.capH (hq.B _ hb4.hk) hq.capB hq.lenH).mono ?_
      have hrs := findP_size (⟨#[114, 97, 110, 103, 101]⟩ : ByteArray) 1000000 hs hhs
      generalize hr : findP (⟨#[114, 97, 110, 103, 101]⟩ : ByteArray) hs = r at hrs ⊢
      replace hr := Lib.hid hr
      obtain ⟨rs, is⟩ := r
      simp only at hrs ⊢
      rintro e W ⟨rfl, hbw⟩
      replace hb4 := hb4.below hbw
      clear hbw ck r0 r1 r2 r3
      have ck := hb4.c 0 (u := .int .i64 5) (by show some (Value.int .i64 c4.kind) = _; rw [hk4])
      have cF := hb4.cF
      cases is
      · as_aux_lemma =>
        go_wp2
        go_ret
        refine ⟨.slice none 0 0, ?_, ?_, ownB_nil _ _ _, hb4.hk⟩
        all_goals rw [show res = (c4, f4) by rw [← hres.out]; simp only [besPage, ht.out, if_true, hrd.out]; rw [show countOk true 1000 (findP (⟨#[109, 97, 120, 45, 107, 101, 121, 115]⟩ : ByteArray) l) = f3 by rw [← hf3.out, ← hf2.out, ← hf1.out, ← hf0.out], HF.out, hf4.out, ← HC4.out, ← HC3.out, ← HC2.out, ← HC1.out, HC0.out]]
        all_goals first | rfl | exact hb4.hg
      · as_aux_lemma =>
        go_wp2
        go_ret
        refine ⟨.slice none 0 0, ?_, ?_, ownB_nil _ _ _, hb4.hk⟩
        all_goals rw [show res = (c4, f4) by rw [← hres.out]; simp only [besPage, ht.out, if_true, hrd.out]; rw [show countOk true 1000 (findP (⟨#[109, 97, 120, 45, 107, 101, 121, 115]⟩ : ByteArray) l) = f3 by rw [← hf3.out, ← hf2.out, ← hf1.out, ← hf0.out], HF.out, hf4.out, ← HC4.out, ← HC3.out, ← HC2.out, ← HC1.out, HC0.out]]
        all_goals first | rfl | exact hb4.hg
end Go.Proofs.YtehibiplodjofaaDoor
end
section
/- route.beside at some kinds (printed by wip/gen_rq29.py). -/
namespace Go.Proofs.YtehibiplodjofaaDoor
open Go.RowKit Go.Proofs.YtehibiplodjofaaDoorW.PrintWords Go.Proofs.YtehibiplodjofaaDoorW.PrintLast Go.Proofs.YtehibiplodjofaaDoorW.PrintMore
set_option linter.unusedVariables false
set_option linter.unusedSimpArgs false
set_option maxHeartbeats 8000000 in
set_option maxRecDepth 10000 in
theorem beside_6 (c : CallP) (g : Nat) (m t : ByteArray) (AH : Option Addr) (cH : Nat) (hs : List PairT) (AB : Option Addr) (cB : Nat) (bn : List Int) (A : Option Addr) (cA : Nat) (l : List PairT) (w : World) (hkind : c.kind = 6)
    (hg : w.heap[g]? = some (.cells (callV c (.slice none 0 0)) 26 (0, 0))) (hl : l.length ≤ 32) (hls : ∀ q ∈ l, q.f1.size ≤ 1000000) (hC : Kd.C Pr.k41 w A l.length l) (hcA : l.length ≤ cA) (hA : ∀ ad, A = some ad → 0 < l.length → ad.block ≠ g ∧ ad.block < w.heap.size)
    (hq : ReqIn w g AH cH hs AB cB bn) (hhs : ∀ q ∈ hs, q.f1.size ≤ 1000000) :
    Calls Tryd.prog 21 #[.pointer (some ⟨g, 0, none⟩), .agg #[.string m, .string t, .slice AH hs.length cH, .slice AB bn.length cB], .slice A l.length cA] w (BesQ w g [] (besPage c l)) := by
  have hb0 := Bes.start (rq := #[.string m, .string t, .slice AH hs.length cH, .slice AB bn.length cB]) hg hl hC hcA hA
  have hlt := hb0.lt
  clear hC hcA hA
  have hst := store_fn (P := Tryd.prog) (w.heap.size + 1 + 1 + 1) (textFn (w.heap.size + 1)) rfl
  unfold textFn at hb0 hst
  generalize hres : besPage c l = res
  replace hres := Lib.hid hres
  go_enter Tryd.func21, Tryd.ntmps21
  go_upto_region 5 with (fail)
  generalize (((w.alloc (.cells #[.string m, .string t, .slice AH hs.length cH, .slice AB bn.length cB] 31)).alloc (.cells #[.slice A l.length cA] 29)).alloc (.cells #[.bool true] 4)).alloc (.cells #[.func (.func 31) #[] #[.pointer (some ⟨w.heap.size + 1, 0, none⟩)]] 73) = W0 at hb0 ⊢
  clear hst
  obtain ⟨c0, hc0⟩ : ∃ c0, c0 = c := ⟨c, rfl⟩
  rw [← hc0] at hb0
  have hk0 : c0.kind = 6 := by rw [hc0]; exact hkind
  have HC0 := Lib.hid hc0
  clear hc0 hkind hg
  generalize hf0 : true = f0 at hb0
  replace hf0 := Lib.hid hf0
  have ck := hb0.c 0 (u := .int .i64 6) (by show some (Value.int .i64 c0.kind) = _; rw [hk0])
  have cX := hb0.cX
  go_upto_region 8 with (fail)
  go_still_tail 4, (by kernel_rfl)
  change wpList _ _ _ _ _ W0.drew
  replace hb0 := hb0.drew
  clear ck cX
  generalize W0.drew = W0 at hb0 ⊢
  have ck := hb0.c 0 (u := .int .i64 6) (by show some (Value.int .i64 c0.kind) = _; rw [hk0])
  go_wp2_with fail
  refine (btext_any (⟨#[112, 114, 101, 102, 105, 120]⟩ : ByteArray) g 6 _ _ l _ hb0.hg (by show 6 < 15; decide) _ hb0.hP).mono ?_
  rintro e W1 ⟨rfl, h1, h3⟩
  have h2 : W1.heap[w.heap.size + 1 + 1]? = some (.cells #[.bool f0] 4 (0, 0)) := (h3.block _ (blk_lt hb0.hF) (by omega)).trans hb0.hF
  replace h3 := h3.mono (S' := fun k => k = g ∨ k = w.heap.size + 1 + 1) fun _ _ h => .inl h
  have hb1 := hb0.step (cs' := callV { c0 with pre := (findP (⟨#[112, 114, 101, 102, 105, 120]⟩ : ByteArray) l).1 } (.slice none 0 0)) h1 h2 h3
  generalize hc1 : { c0 with pre := (findP (⟨#[112, 114, 101, 102, 105, 120]⟩ : ByteArray) l).1 } = c1 at hb1
  have hk1 : c1.kind = 6 := by rw [← hc1]; exact hk0
  have HC1 := Lib.hid hc1
  clear hc1 hk0
  obtain ⟨f1, hf1⟩ : ∃ x, f0 = x := ⟨_, rfl⟩
  rw [hf1] at hb1
  replace hf1 := Lib.hid hf1
  clear hb0 ck
  have ck := hb1.c 0 (u := .int .i64 6) (by show some (Value.int .i64 c1.kind) = _; rw [hk1])
  clear h1 h2 h3
  have cX := hb1.cX
  go_upto_region 9 with (fail)
  go_still_tail 4, (by kernel_rfl)
  change wpList _ _ _ _ _ W1.drew
  replace hb1 := hb1.drew
  clear ck cX
  generalize W1.drew = W1 at hb1 ⊢
  have ck := hb1.c 0 (u := .int .i64 6) (by show some (Value.int .i64 c1.kind) = _; rw [hk1])
  go_wp2_with fail
  refine (btext_any (⟨#[100, 101, 108, 105, 109, 105, 116, 101, 114]⟩ : ByteArray) g 7 _ _ l _ hb1.hg (by show 7 < 15; decide) _ hb1.hP).mono ?_
  rintro e W2 ⟨rfl, h1, h3⟩
  have h2 : W2.heap[w.heap.size + 1 + 1]? = some (.cells #[.bool f1] 4 (0, 0)) := (h3.block _ (blk_lt hb1.hF) (by omega)).trans hb1.hF
  replace h3 := h3.mono (S' := fun k => k = g ∨ k = w.heap.size + 1 + 1) fun _ _ h => .inl h
  have hb2 := hb1.step (cs' := callV { c1 with delim := (findP (⟨#[100, 101, 108, 105, 109, 105, 116, 101, 114]⟩ : ByteArray) l).1 } (.slice none 0 0)) h1 h2 h3
  generalize hc2 : { c1 with delim := (findP (⟨#[100, 101, 108, 105, 109, 105, 116, 101, 114]⟩ : ByteArray) l).1 } = c2 at hb2
  have hk2 : c2.kind = 6 := by rw [← hc2]; exact hk1
  have HC2 := Lib.hid hc2
  clear hc2 hk1
  obtain ⟨f2, hf2⟩ : ∃ x, f1 = x := ⟨_, rfl⟩
  rw [hf2] at hb2
  replace hf2 := Lib.hid hf2
  clear hb1 ck
  have ck := hb2.c 0 (u := .int .i64 6) (by show some (Value.int .i64 c2.kind) = _; rw [hk2])
  clear h1 h2 h3
  go_wp2_with fail
  refine (count_any (⟨#[109, 97, 120, 45, 107, 101, 121, 115]⟩ : ByteArray) g 10 _ 1000 1000 _ _ f2 l _ hb2.hg (by show 10 < 15; decide) _ hb2.hP (Or.inl rfl) hb2.hF).mono ?_
  rintro e W3 ⟨rfl, h1, h2, h3⟩
  have hb3 := hb2.step (cs' := callV { c2 with most := countN 1000 (findP (⟨#[109, 97, 120, 45, 107, 101, 121, 115]⟩ : ByteArray) l) } (.slice none 0 0)) h1 h2 h3
  generalize hc3 : { c2 with most := countN 1000 (findP (⟨#[109, 97, 120, 45, 107, 101, 121, 115]⟩ : ByteArray) l) } = c3 at hb3
  have hk3 : c3.kind = 6 := by rw [← hc3]; exact hk2
  have HC3 := Lib.hid hc3
  clear hc3 hk2
  generalize hf3 : countOk f2 1000 (findP (⟨#[109, 97, 120, 45, 107, 101, 121, 115]⟩ : ByteArray) l) = f3 at hb3
  replace hf3 := Lib.hid hf3
  clear hb2 ck
  have ck := hb3.c 0 (u := .int .i64 6) (by show some (Value.int .i64 c3.kind) = _; rw [hk3])
  clear h1 h2 h3
  obtain ⟨A', c', hP1, hP2, hP3, -⟩ := hb3.hP.at_
  have cP : W3.cell? ⟨w.heap.size + 1, 0, none⟩ = some (.slice A' l.length c') := by rw [blk_cell hP1]; rfl
  go_wp2_with fail
  refine (find_any (⟨#[99, 111, 110, 116, 105, 110, 117, 97, 116, 105, 111, 110, 45, 116, 111, 107, 101, 110]⟩ : ByteArray) A' c' l hl _ hP2 hP3).mono ?_
  clear hP1 hP2 hP3 cP
  have hts := findP_size (⟨#[99, 111, 110, 116, 105, 110, 117, 97, 116, 105, 111, 110, 45, 116, 111, 107, 101, 110]⟩ : ByteArray) 1000000 l hls
  generalize ht : findP (⟨#[99, 111, 110, 116, 105, 110, 117, 97, 116, 105, 111, 110, 45, 116, 111, 107, 101, 110]⟩ : ByteArray) l = tk at hts ⊢
  replace ht := Lib.hid ht
  obtain ⟨ts, it⟩ := tk
  simp only at hts ⊢
  rintro e W ⟨rfl, hbw⟩
  replace hb3 := hb3.below hbw
  clear hbw ck
  have ck := hb3.c 0 (u := .int .i64 6) (by show some (Value.int .i64 c3.kind) = _; rw [hk3])
  cases it
  · as_aux_lemma =>
    have r0 := hb3.cR 0 (u := .string m) rfl
    have r1 := hb3.cR 1 (u := .string t) rfl
    have r2 := hb3.cR 2 (u := .slice AH hs.length cH) rfl
    have r3 := hb3.cR 3 (u := .slice AB bn.length cB) rfl
    go_wp2_with fail
    refine (get_any m t AH cH hs AB cB bn (⟨#[114, 97, 110, 103, 101]⟩ : ByteArray) _ (hq.H _ hb3.hk) hq.capH (hq.B _ hb3.hk) hq.capB hq.lenH).mono ?_
    have hrs := findP_size (⟨#[114, 97, 110, 103, 101]⟩ : ByteArray) 1000000 hs hhs
    generalize hr : findP (⟨#[114, 97, 110, 103, 101]⟩ : ByteArray) hs = r at hrs ⊢
    replace hr := Lib.hid hr
    obtain ⟨rs, is⟩ := r
    simp only at hrs ⊢
    rintro e W ⟨rfl, hbw⟩
    replace hb3 := hb3.below hbw
    clear hbw ck r0 r1 r2 r3
    have ck := hb3.c 0 (u := .int .i64 6) (by show some (Value.int .i64 c3.kind) = _; rw [hk3])
    have cF := hb3.cF
    cases is
    · as_aux_lemma =>
      go_wp2
      go_ret
      refine ⟨.slice none 0 0, ?_, ?_, ownB_nil _ _ _, hb3.hk⟩
      all_goals rw [show res = (c3, f3) by rw [← hres.out]; have hkc : c.kind = 6 := (by have h := hk3; rw [← HC3.out, ← HC2.out, ← HC1.out, HC0.out] at h; exact h); simp only [besPage, ht.out, hkc, show ((6 : Int) = 5) = False by simp, if_false, Bool.false_eq_true]; rw [show countOk true 1000 (findP (⟨#[109, 97, 120, 45, 107, 101, 121, 115]⟩ : ByteArray) l) = f3 by rw [← hf3.out, ← hf2.out, ← hf1.out, ← hf0.out], ← HC3.out, ← HC2.out, ← HC1.out, HC0.out] <;> simp only [hkc]]
      all_goals first | rfl | exact hb3.hg
    · as_aux_lemma =>
      go_wp2
      go_ret
      refine ⟨.slice none 0 0, ?_, ?_, ownB_nil _ _ _, hb3.hk⟩
      all_goals rw [show res = (c3, f3) by rw [← hres.out]; have hkc : c.kind = 6 := (by have h := hk3; rw [← HC3.out, ← HC2.out, ← HC1.out, HC0.out] at h; exact h); simp only [besPage, ht.out, hkc, show ((6 : Int) = 5) = False by simp, if_false, Bool.false_eq_true]; rw [show countOk true 1000 (findP (⟨#[109, 97, 120, 45, 107, 101, 121, 115]⟩ : ByteArray) l) = f3 by rw [← hf3.out, ← hf2.out, ← hf1.out, ← hf0.out], ← HC3.out, ← HC2.out, ← HC1.out, HC0.out] <;> simp only [hkc]]
      all_goals first | rfl | exact hb3.hg
  · as_aux_lemma =>
    go_wp2_with fail
    refine (readR_any ts hts _).mono ?_
    generalize hrd : Pr.readR ts = rd at ⊢
    replace hrd := Lib.hid hrd
    obtain ⟨ra, rb, re⟩ := rd
    simp only
    rintro e V ⟨rfl, hbw⟩
    replace hb3 := hb3.below hbw
    clear hbw ck
    have c8 := hb3.c 8 (u := .string c3.aft) rfl
    have f8 := hb3.fz 8
    have hb4 := hb3.set 8 (.string ra)
    have c9 := hb4.c 9 (u := .string c3.behind) rfl
    have f9 := hb4.fz 9
    have hb5 := hb4.set 9 (.string rb)
    have cF := hb5.cF
    have fF := hb5.fF
    have hb6 := hb5.setF (f3 && decide (re = 0))
    clear hb3 hb4
    have hcut : f3 = false ∨ (f3 = true ∧ re = 0) ∨ (f3 = true ∧ ¬ re = 0) := by cases f3 <;> by_cases h : re = 0 <;> simp [h]
    rcases hcut with hF | ⟨hF, hpos⟩ | ⟨hF, hpos⟩
    · as_aux_lemma =>
      rw [hF] at cF
      have HF := Lib.hid (show (f3 && decide (re = 0)) = false by rw [hF]; rfl)
      rw [HF.out] at hb6
      have ck6 := hb6.c 0 (u := .int .i64 6) (by show some (Value.int .i64 c3.kind) = _; rw [hk3])
      clear hF
      go_upto_region 30 with (fail)
      generalize ((V.setCell ⟨g, 8, none⟩ (.string ra)).setCell ⟨g, 9, none⟩ (.string rb)).setCell ⟨w.heap.size + 1 + 1, 0, none⟩ (.bool false) = W4 at hb6 ck6 ⊢
      clear c8 f8 c9 f9 cF fF hb5
      have hb4 : Bes w W4 g _ l (callV { c3 with aft := ra, behind := rb } (.slice none 0 0)) false := hb6
      generalize hc4 : ({ c3 with aft := ra, behind := rb } : CallP) = c4 at hb4
      have hk4 : c4.kind = 6 := by rw [← hc4]; exact hk3
      have HC4 := Lib.hid hc4
      have ck := ck6
      clear hc4 hk3 hb6 ck6
      obtain ⟨f4, hf4⟩ : ∃ x : Bool, false = x := ⟨_, rfl⟩
      rw [hf4] at hb4
      replace hf4 := Lib.hid hf4
      have r0 := hb4.cR 0 (u := .string m) rfl
      have r1 := hb4.cR 1 (u := .string t) rfl
      have r2 := hb4.cR 2 (u := .slice AH hs.length cH) rfl
      have r3 := hb4.cR 3 (u := .slice AB bn.length cB) rfl
      go_wp2_with fail
      refine (get_any m t AH cH hs AB cB bn (⟨#[114, 97, 110, 103, 101]⟩ : ByteArray) _ (hq.H _ hb4.hk) hq.capH (hq.B _ hb4.hk) hq.capB hq.lenH).mono ?_
      have hrs := findP_size (⟨#[114, 97, 110, 103, 101]⟩ : ByteArray) 1000000 hs hhs
      generalize hr : findP (⟨#[114, 97, 110, 103, 101]⟩ : ByteArray) hs = r at hrs ⊢
      replace hr := Lib.hid hr
      obtain ⟨rs, is⟩ := r
      simp only at hrs ⊢
      rintro e W ⟨rfl, hbw⟩
      replace hb4 := hb4.below hbw
      clear hbw ck r0 r1 r2 r3
      have ck := hb4.c 0 (u := .int .i64 6) (by show some (Value.int .i64 c4.kind) = _; rw [hk4])
      have cF := hb4.cF
      cases is
      · as_aux_lemma =>
        go_wp2
        go_ret
        refine ⟨.slice none 0 0, ?_, ?_, ownB_nil _ _ _, hb4.hk⟩
        all_goals rw [show res = (c4, f4) by rw [← hres.out]; simp only [besPage, ht.out, if_true, hrd.out]; rw [show countOk true 1000 (findP (⟨#[109, 97, 120, 45, 107, 101, 121, 115]⟩ : ByteArray) l) = f3 by rw [← hf3.out, ← hf2.out, ← hf1.out, ← hf0.out], HF.out, hf4.out, ← HC4.out, ← HC3.out, ← HC2.out, ← HC1.out, HC0.out]]
        all_goals first | rfl | exact hb4.hg
      · as_aux_lemma =>
        go_wp2
        go_ret
        refine ⟨.slice none 0 0, ?_, ?_, ownB_nil _ _ _, hb4.hk⟩
        all_goals rw [show res = (c4, f4) by rw [← hres.out]; simp only [besPage, ht.out, if_true, hrd.out]; rw [show countOk true 1000 (findP (⟨#[109, 97, 120, 45, 107, 101, 121, 115]⟩ : ByteArray) l) = f3 by rw [← hf3.out, ← hf2.out, ← hf1.out, ← hf0.out], HF.out, hf4.out, ← HC4.out, ← HC3.out, ← HC2.out, ← HC1.out, HC0.out]]
        all_goals first | rfl | exact hb4.hg
    · as_aux_lemma =>
      have hd : decide (re = 0) = true := decide_eq_true hpos
      have hd' : (re == 0) = true := by rw [hpos]; rfl
      rw [hF] at cF
      have HF := Lib.hid (show (f3 && decide (re = 0)) = true by rw [hF, hd]; rfl)
      rw [HF.out] at hb6
      have ck6 := hb6.c 0 (u := .int .i64 6) (by show some (Value.int .i64 c3.kind) = _; rw [hk3])
      clear hF
      go_upto_region 30 with (fail)
      generalize ((V.setCell ⟨g, 8, none⟩ (.string ra)).setCell ⟨g, 9, none⟩ (.string rb)).setCell ⟨w.heap.size + 1 + 1, 0, none⟩ (.bool true) = W4 at hb6 ck6 ⊢
      clear c8 f8 c9 f9 cF fF hb5
      have hb4 : Bes w W4 g _ l (callV { c3 with aft := ra, behind := rb } (.slice none 0 0)) true := hb6
      generalize hc4 : ({ c3 with aft := ra, behind := rb } : CallP) = c4 at hb4
      have hk4 : c4.kind = 6 := by rw [← hc4]; exact hk3
      have HC4 := Lib.hid hc4
      have ck := ck6
      clear hc4 hk3 hb6 ck6
      obtain ⟨f4, hf4⟩ : ∃ x : Bool, true = x := ⟨_, rfl⟩
      rw [hf4] at hb4
      replace hf4 := Lib.hid hf4
      have r0 := hb4.cR 0 (u := .string m) rfl
      have r1 := hb4.cR 1 (u := .string t) rfl
      have r2 := hb4.cR 2 (u := .slice AH hs.length cH) rfl
      have r3 := hb4.cR 3 (u := .slice AB bn.length cB) rfl
      go_wp2_with fail
      refine (get_any m t AH cH hs AB cB bn (⟨#[114, 97, 110, 103, 101]⟩ : ByteArray) _ (hq.H _ hb4.hk) hq.capH (hq.B _ hb4.hk) hq.capB hq.lenH).mono ?_
      have hrs := findP_size (⟨#[114, 97, 110, 103, 101]⟩ : ByteArray) 1000000 hs hhs
      generalize hr : findP (⟨#[114, 97, 110, 103, 101]⟩ : ByteArray) hs = r at hrs ⊢
      replace hr := Lib.hid hr
      obtain ⟨rs, is⟩ := r
      simp only at hrs ⊢
      rintro e W ⟨rfl, hbw⟩
      replace hb4 := hb4.below hbw
      clear hbw ck r0 r1 r2 r3
      have ck := hb4.c 0 (u := .int .i64 6) (by show some (Value.int .i64 c4.kind) = _; rw [hk4])
      have cF := hb4.cF
      cases is
      · as_aux_lemma =>
        go_wp2
        go_ret
        refine ⟨.slice none 0 0, ?_, ?_, ownB_nil _ _ _, hb4.hk⟩
        all_goals rw [show res = (c4, f4) by rw [← hres.out]; simp only [besPage, ht.out, if_true, hrd.out]; rw [show countOk true 1000 (findP (⟨#[109, 97, 120, 45, 107, 101, 121, 115]⟩ : ByteArray) l) = f3 by rw [← hf3.out, ← hf2.out, ← hf1.out, ← hf0.out], HF.out, hf4.out, ← HC4.out, ← HC3.out, ← HC2.out, ← HC1.out, HC0.out]]
        all_goals first | rfl | exact hb4.hg
      · as_aux_lemma =>
        go_wp2
        go_ret
        refine ⟨.slice none 0 0, ?_, ?_, ownB_nil _ _ _, hb4.hk⟩
        all_goals rw [show res = (c4, f4) by rw [← hres.out]; simp only [besPage, ht.out, if_true, hrd.out]; rw [show countOk true 1000 (findP (⟨#[109, 97, 120, 45, 107, 101, 121, 115]⟩ : ByteArray) l) = f3 by rw [← hf3.out, ← hf2.out, ← hf1.out, ← hf0.out], HF.out, hf4.out, ← HC4.out, ← HC3.out, ← HC2.out, ← HC1.out, HC0.out]]
        all_goals first | rfl | exact hb4.hg
    · as_aux_lemma =>
      have hd : decide (re = 0) = false := decide_eq_false hpos
      have hd' : (re == 0) = false := by simpa using hpos
      rw [hF] at cF
      have HF := Lib.hid (show (f3 && decide (re = 0)) = false by rw [hF, hd]; rfl)
      rw [HF.out] at hb6
      have ck6 := hb6.c 0 (u := .int .i64 6) (by show some (Value.int .i64 c3.kind) = _; rw [hk3])
      clear hF
      go_upto_region 30 with (fail)
      generalize ((V.setCell ⟨g, 8, none⟩ (.string ra)).setCell ⟨g, 9, none⟩ (.string rb)).setCell ⟨w.heap.size + 1 + 1, 0, none⟩ (.bool false) = W4 at hb6 ck6 ⊢
      clear c8 f8 c9 f9 cF fF hb5
      have hb4 : Bes w W4 g _ l (callV { c3 with aft := ra, behind := rb } (.slice none 0 0)) false := hb6
      generalize hc4 : ({ c3 with aft := ra, behind := rb } : CallP) = c4 at hb4
      have hk4 : c4.kind = 6 := by rw [← hc4]; exact hk3
      have HC4 := Lib.hid hc4
      have ck := ck6
      clear hc4 hk3 hb6 ck6
      obtain ⟨f4, hf4⟩ : ∃ x : Bool, false = x := ⟨_, rfl⟩
      rw [hf4] at hb4
      replace hf4 := Lib.hid hf4
      have r0 := hb4.cR 0 (u := .string m) rfl
      have r1 := hb4.cR 1 (u := .string t) rfl
      have r2 := hb4.cR 2 (u := .slice AH hs.length cH) rfl
      have r3 := hb4.cR 3 (u := .slice AB bn.length cB) rfl
      go_wp2_with fail
      refine (get_any m t AH cH hs AB cB bn (⟨#[114, 97, 110, 103, 101]⟩ : ByteArray) _ (hq.H _ hb4.hk) hq.capH (hq.B _ hb4.hk) hq.capB hq.lenH).mono ?_
      have hrs := findP_size (⟨#[114, 97, 110, 103, 101]⟩ : ByteArray) 1000000 hs hhs
      generalize hr : findP (⟨#[114, 97, 110, 103, 101]⟩ : ByteArray) hs = r at hrs ⊢
      replace hr := Lib.hid hr
      obtain ⟨rs, is⟩ := r
      simp only at hrs ⊢
      rintro e W ⟨rfl, hbw⟩
      replace hb4 := hb4.below hbw
      clear hbw ck r0 r1 r2 r3
      have ck := hb4.c 0 (u := .int .i64 6) (by show some (Value.int .i64 c4.kind) = _; rw [hk4])
      have cF := hb4.cF
      cases is
      · as_aux_lemma =>
        go_wp2
        go_ret
        refine ⟨.slice none 0 0, ?_, ?_, ownB_nil _ _ _, hb4.hk⟩
        all_goals rw [show res = (c4, f4) by rw [← hres.out]; simp only [besPage, ht.out, if_true, hrd.out]; rw [show countOk true 1000 (findP (⟨#[109, 97, 120, 45, 107, 101, 121, 115]⟩ : ByteArray) l) = f3 by rw [← hf3.out, ← hf2.out, ← hf1.out, ← hf0.out], HF.out, hf4.out, ← HC4.out, ← HC3.out, ← HC2.out, ← HC1.out, HC0.out]]
        all_goals first | rfl | exact hb4.hg
      · as_aux_lemma =>
        go_wp2
        go_ret
        refine ⟨.slice none 0 0, ?_, ?_, ownB_nil _ _ _, hb4.hk⟩
        all_goals rw [show res = (c4, f4) by rw [← hres.out]; simp only [besPage, ht.out, if_true, hrd.out]; rw [show countOk true 1000 (findP (⟨#[109, 97, 120, 45, 107, 101, 121, 115]⟩ : ByteArray) l) = f3 by rw [← hf3.out, ← hf2.out, ← hf1.out, ← hf0.out], HF.out, hf4.out, ← HC4.out, ← HC3.out, ← HC2.out, ← HC1.out, HC0.out]]
        all_goals first | rfl | exact hb4.hg
end Go.Proofs.YtehibiplodjofaaDoor
end
section
/- route.beside at some kinds (printed by wip/gen_rq29.py). -/
namespace Go.Proofs.YtehibiplodjofaaDoor
open Go.RowKit Go.Proofs.YtehibiplodjofaaDoorW.PrintWords Go.Proofs.YtehibiplodjofaaDoorW.PrintLast Go.Proofs.YtehibiplodjofaaDoorW.PrintMore
set_option linter.unusedVariables false
set_option linter.unusedSimpArgs false
set_option maxHeartbeats 8000000 in
set_option maxRecDepth 10000 in
theorem beside_12 (c : CallP) (g : Nat) (m t : ByteArray) (AH : Option Addr) (cH : Nat) (hs : List PairT) (AB : Option Addr) (cB : Nat) (bn : List Int) (A : Option Addr) (cA : Nat) (l : List PairT) (w : World) (hkind : c.kind = 12)
    (hg : w.heap[g]? = some (.cells (callV c (.slice none 0 0)) 26 (0, 0))) (hl : l.length ≤ 32) (hls : ∀ q ∈ l, q.f1.size ≤ 1000000) (hC : Kd.C Pr.k41 w A l.length l) (hcA : l.length ≤ cA) (hA : ∀ ad, A = some ad → 0 < l.length → ad.block ≠ g ∧ ad.block < w.heap.size)
    (hq : ReqIn w g AH cH hs AB cB bn) (hhs : ∀ q ∈ hs, q.f1.size ≤ 1000000) :
    Calls Tryd.prog 21 #[.pointer (some ⟨g, 0, none⟩), .agg #[.string m, .string t, .slice AH hs.length cH, .slice AB bn.length cB], .slice A l.length cA] w (BesQ w g [] (besGet c l hs)) := by
  have hb0 := Bes.start (rq := #[.string m, .string t, .slice AH hs.length cH, .slice AB bn.length cB]) hg hl hC hcA hA
  have hlt := hb0.lt
  clear hC hcA hA
  have hst := store_fn (P := Tryd.prog) (w.heap.size + 1 + 1 + 1) (textFn (w.heap.size + 1)) rfl
  unfold textFn at hb0 hst
  generalize hres : besGet c l hs = res
  replace hres := Lib.hid hres
  go_enter Tryd.func21, Tryd.ntmps21
  go_upto_region 5 with (fail)
  generalize (((w.alloc (.cells #[.string m, .string t, .slice AH hs.length cH, .slice AB bn.length cB] 31)).alloc (.cells #[.slice A l.length cA] 29)).alloc (.cells #[.bool true] 4)).alloc (.cells #[.func (.func 31) #[] #[.pointer (some ⟨w.heap.size + 1, 0, none⟩)]] 73) = W0 at hb0 ⊢
  clear hst
  obtain ⟨c0, hc0⟩ : ∃ c0, c0 = c := ⟨c, rfl⟩
  rw [← hc0] at hb0
  have hk0 : c0.kind = 12 := by rw [hc0]; exact hkind
  have HC0 := Lib.hid hc0
  clear hc0 hkind hg
  generalize hf0 : true = f0 at hb0
  replace hf0 := Lib.hid hf0
  have ck := hb0.c 0 (u := .int .i64 12) (by show some (Value.int .i64 c0.kind) = _; rw [hk0])
  go_wp2_with fail
  refine (id_any (⟨#[118, 101, 114, 115, 105, 111, 110, 73, 100]⟩ : ByteArray) g 3 _ _ _ _ f0 l _ hb0.hg (by show 3 < 15; decide) _ hb0.hP hb0.hX hb0.hF).mono ?_
  rintro e W1 ⟨rfl, h1, h2, h3⟩
  have hb1 := hb0.step (cs' := callV { c0 with version := (findP (⟨#[118, 101, 114, 115, 105, 111, 110, 73, 100]⟩ : ByteArray) l).1 } (.slice none 0 0)) h1 h2 h3
  generalize hc1 : { c0 with version := (findP (⟨#[118, 101, 114, 115, 105, 111, 110, 73, 100]⟩ : ByteArray) l).1 } = c1 at hb1
  have hk1 : c1.kind = 12 := by rw [← hc1]; exact hk0
  have HC1 := Lib.hid hc1
  clear hc1 hk0
  generalize hf1 : idOk f0 (findP (⟨#[118, 101, 114, 115, 105, 111, 110, 73, 100]⟩ : ByteArray) l) = f1 at hb1
  replace hf1 := Lib.hid hf1
  clear hb0 ck
  have ck := hb1.c 0 (u := .int .i64 12) (by show some (Value.int .i64 c1.kind) = _; rw [hk1])
  clear h1 h2 h3
  have r0 := hb1.cR 0 (u := .string m) rfl
  have r1 := hb1.cR 1 (u := .string t) rfl
  have r2 := hb1.cR 2 (u := .slice AH hs.length cH) rfl
  have r3 := hb1.cR 3 (u := .slice AB bn.length cB) rfl
  go_wp2_with fail
  refine (get_any m t AH cH hs AB cB bn (⟨#[114, 97, 110, 103, 101]⟩ : ByteArray) _ (hq.H _ hb1.hk) hq.capH (hq.B _ hb1.hk) hq.capB hq.lenH).mono ?_
  have hrs := findP_size (⟨#[114, 97, 110, 103, 101]⟩ : ByteArray) 1000000 hs hhs
  generalize hr : findP (⟨#[114, 97, 110, 103, 101]⟩ : ByteArray) hs = r at hrs ⊢
  replace hr := Lib.hid hr
  obtain ⟨rs, is⟩ := r
  simp only at hrs ⊢
  rintro e W ⟨rfl, hbw⟩
  replace hb1 := hb1.below hbw
  clear hbw ck r0 r1 r2 r3
  have ck := hb1.c 0 (u := .int .i64 12) (by show some (Value.int .i64 c1.kind) = _; rw [hk1])
  have cF := hb1.cF
  cases is
  · as_aux_lemma =>
    go_wp2
    go_ret
    refine ⟨.slice none 0 0, ?_, ?_, ownB_nil _ _ _, hb1.hk⟩
    all_goals rw [show res = (c1, f1) by rw [← hres.out]; unfold besGet besVer; rw [hr.out, ← hf1.out, ← HC1.out, ← hf0.out, HC0.out]; rfl]
    all_goals first | rfl | exact hb1.hg
  · as_aux_lemma =>
    go_wp2_with fail
    refine (ranged_any rs g _ _ hrs hb1.hg rfl).mono ?_
    have hRP := Lib.hid (show (rangedP rs).1 = (rangedP rs).1 ∧ (rangedP rs).2 = (rangedP rs).2 from ⟨rfl, rfl⟩)
    generalize hp : rangedP rs = p at ⊢
    replace hp := Lib.hid hp
    obtain ⟨ro, ru⟩ := p
    simp only
    rintro e W2 ⟨rfl, h1, h3⟩
    rw [rangedU_cells] at h1
    have h2 : W2.heap[w.heap.size + 1 + 1]? = some (.cells #[.bool f1] 4 (0, 0)) := (h3.block _ (blk_lt hb1.hF) (by omega)).trans hb1.hF
    replace h3 := h3.mono (S' := fun k => k = g ∨ k = w.heap.size + 1 + 1) fun _ _ h => .inl h
    have hb2 := hb1.step h1 h2 h3
    have hk2 : (rangedU c1 ru).kind = 12 := by rw [rangedU_kind]; exact hk1
    generalize hc2 : rangedU c1 ru = c2 at hb2 hk2
    replace hc2 := Lib.hid hc2
    clear h1 h2 h3 ck cF hb1 hRP
    have cF := hb2.cF
    have fF := hb2.fF
    have hb3 := hb2.setF (ro && f1)
    have ck := hb3.c 0 (u := .int .i64 12) (by show some (Value.int .i64 c2.kind) = _; rw [hk2])
    have cF3 := hb3.cF
    have ck2 := hb2.c 0 (u := .int .i64 12) (by show some (Value.int .i64 c2.kind) = _; rw [hk2])
    cases ro
    · as_aux_lemma =>
      simp only [Bool.false_and] at hb3 ck cF3
      go_wp2
      go_ret
      refine ⟨.slice none 0 0, ?_, ?_, ownB_nil _ _ _, hb3.hk⟩
      all_goals rw [show res = (c2, false) by rw [← hres.out]; unfold besGet besVer; rw [hr.out]; simp only [if_true, hp.out]; rw [← hc2.out, ← HC1.out, ← HC0.out, Bool.false_and]]
      all_goals first | rfl | exact hb3.hg
    · as_aux_lemma =>
      simp only [Bool.true_and] at hb3 ck cF3
      go_wp2
      go_ret
      refine ⟨.slice none 0 0, ?_, ?_, ownB_nil _ _ _, hb3.hk⟩
      all_goals rw [show res = (c2, f1) by rw [← hres.out]; unfold besGet besVer; rw [hr.out]; simp only [if_true, hp.out]; rw [← hc2.out, ← HC1.out, ← HC0.out, Bool.true_and, ← hf1.out, ← hf0.out]]
      all_goals first | rfl | exact hb3.hg
set_option maxHeartbeats 8000000 in
set_option maxRecDepth 10000 in
theorem beside_13 (c : CallP) (g : Nat) (m t : ByteArray) (AH : Option Addr) (cH : Nat) (hs : List PairT) (AB : Option Addr) (cB : Nat) (bn : List Int) (A : Option Addr) (cA : Nat) (l : List PairT) (w : World) (hkind : c.kind = 13)
    (hg : w.heap[g]? = some (.cells (callV c (.slice none 0 0)) 26 (0, 0))) (hl : l.length ≤ 32) (hls : ∀ q ∈ l, q.f1.size ≤ 1000000) (hC : Kd.C Pr.k41 w A l.length l) (hcA : l.length ≤ cA) (hA : ∀ ad, A = some ad → 0 < l.length → ad.block ≠ g ∧ ad.block < w.heap.size)
    (hq : ReqIn w g AH cH hs AB cB bn) (hhs : ∀ q ∈ hs, q.f1.size ≤ 1000000) :
    Calls Tryd.prog 21 #[.pointer (some ⟨g, 0, none⟩), .agg #[.string m, .string t, .slice AH hs.length cH, .slice AB bn.length cB], .slice A l.length cA] w (BesQ w g [] (besVer c l)) := by
  have hb0 := Bes.start (rq := #[.string m, .string t, .slice AH hs.length cH, .slice AB bn.length cB]) hg hl hC hcA hA
  have hlt := hb0.lt
  clear hC hcA hA
  have hst := store_fn (P := Tryd.prog) (w.heap.size + 1 + 1 + 1) (textFn (w.heap.size + 1)) rfl
  unfold textFn at hb0 hst
  generalize hres : besVer c l = res
  replace hres := Lib.hid hres
  go_enter Tryd.func21, Tryd.ntmps21
  go_upto_region 5 with (fail)
  generalize (((w.alloc (.cells #[.string m, .string t, .slice AH hs.length cH, .slice AB bn.length cB] 31)).alloc (.cells #[.slice A l.length cA] 29)).alloc (.cells #[.bool true] 4)).alloc (.cells #[.func (.func 31) #[] #[.pointer (some ⟨w.heap.size + 1, 0, none⟩)]] 73) = W0 at hb0 ⊢
  clear hst
  obtain ⟨c0, hc0⟩ : ∃ c0, c0 = c := ⟨c, rfl⟩
  rw [← hc0] at hb0
  have hk0 : c0.kind = 13 := by rw [hc0]; exact hkind
  have HC0 := Lib.hid hc0
  clear hc0 hkind hg
  generalize hf0 : true = f0 at hb0
  replace hf0 := Lib.hid hf0
  have ck := hb0.c 0 (u := .int .i64 13) (by show some (Value.int .i64 c0.kind) = _; rw [hk0])
  go_wp2_with fail
  refine (id_any (⟨#[118, 101, 114, 115, 105, 111, 110, 73, 100]⟩ : ByteArray) g 3 _ _ _ _ f0 l _ hb0.hg (by show 3 < 15; decide) _ hb0.hP hb0.hX hb0.hF).mono ?_
  rintro e W1 ⟨rfl, h1, h2, h3⟩
  have hb1 := hb0.step (cs' := callV { c0 with version := (findP (⟨#[118, 101, 114, 115, 105, 111, 110, 73, 100]⟩ : ByteArray) l).1 } (.slice none 0 0)) h1 h2 h3
  generalize hc1 : { c0 with version := (findP (⟨#[118, 101, 114, 115, 105, 111, 110, 73, 100]⟩ : ByteArray) l).1 } = c1 at hb1
  have hk1 : c1.kind = 13 := by rw [← hc1]; exact hk0
  have HC1 := Lib.hid hc1
  clear hc1 hk0
  generalize hf1 : idOk f0 (findP (⟨#[118, 101, 114, 115, 105, 111, 110, 73, 100]⟩ : ByteArray) l) = f1 at hb1
  replace hf1 := Lib.hid hf1
  clear hb0 ck
  have ck := hb1.c 0 (u := .int .i64 13) (by show some (Value.int .i64 c1.kind) = _; rw [hk1])
  clear h1 h2 h3
  have r0 := hb1.cR 0 (u := .string m) rfl
  have r1 := hb1.cR 1 (u := .string t) rfl
  have r2 := hb1.cR 2 (u := .slice AH hs.length cH) rfl
  have r3 := hb1.cR 3 (u := .slice AB bn.length cB) rfl
  go_wp2_with fail
  refine (get_any m t AH cH hs AB cB bn (⟨#[114, 97, 110, 103, 101]⟩ : ByteArray) _ (hq.H _ hb1.hk) hq.capH (hq.B _ hb1.hk) hq.capB hq.lenH).mono ?_
  have hrs := findP_size (⟨#[114, 97, 110, 103, 101]⟩ : ByteArray) 1000000 hs hhs
  generalize hr : findP (⟨#[114, 97, 110, 103, 101]⟩ : ByteArray) hs = r at hrs ⊢
  replace hr := Lib.hid hr
  obtain ⟨rs, is⟩ := r
  simp only at hrs ⊢
  rintro e W ⟨rfl, hbw⟩
  replace hb1 := hb1.below hbw
  clear hbw ck r0 r1 r2 r3
  have ck := hb1.c 0 (u := .int .i64 13) (by show some (Value.int .i64 c1.kind) = _; rw [hk1])
  have cF := hb1.cF
  cases is
  · as_aux_lemma =>
    go_wp2
    go_ret
    refine ⟨.slice none 0 0, ?_, ?_, ownB_nil _ _ _, hb1.hk⟩
    all_goals rw [show res = (c1, f1) by rw [← hres.out]; unfold besVer; rw [← hf1.out, ← HC1.out, ← hf0.out, HC0.out]]
    all_goals first | rfl | exact hb1.hg
  · as_aux_lemma =>
    go_wp2
    go_ret
    refine ⟨.slice none 0 0, ?_, ?_, ownB_nil _ _ _, hb1.hk⟩
    all_goals rw [show res = (c1, f1) by rw [← hres.out]; unfold besVer; rw [← hf1.out, ← HC1.out, ← hf0.out, HC0.out]]
    all_goals first | rfl | exact hb1.hg
set_option maxHeartbeats 8000000 in
set_option maxRecDepth 10000 in
theorem beside_15 (c : CallP) (g : Nat) (m t : ByteArray) (AH : Option Addr) (cH : Nat) (hs : List PairT) (AB : Option Addr) (cB : Nat) (bn : List Int) (A : Option Addr) (cA : Nat) (l : List PairT) (w : World) (hkind : c.kind = 15)
    (hg : w.heap[g]? = some (.cells (callV c (.slice none 0 0)) 26 (0, 0))) (hl : l.length ≤ 32) (hls : ∀ q ∈ l, q.f1.size ≤ 1000000) (hC : Kd.C Pr.k41 w A l.length l) (hcA : l.length ≤ cA) (hA : ∀ ad, A = some ad → 0 < l.length → ad.block ≠ g ∧ ad.block < w.heap.size)
    (hq : ReqIn w g AH cH hs AB cB bn) (hhs : ∀ q ∈ hs, q.f1.size ≤ 1000000) :
    Calls Tryd.prog 21 #[.pointer (some ⟨g, 0, none⟩), .agg #[.string m, .string t, .slice AH hs.length cH, .slice AB bn.length cB], .slice A l.length cA] w (BesQ w g [] (besVer c l)) := by
  have hb0 := Bes.start (rq := #[.string m, .string t, .slice AH hs.length cH, .slice AB bn.length cB]) hg hl hC hcA hA
  have hlt := hb0.lt
  clear hC hcA hA
  have hst := store_fn (P := Tryd.prog) (w.heap.size + 1 + 1 + 1) (textFn (w.heap.size + 1)) rfl
  unfold textFn at hb0 hst
  generalize hres : besVer c l = res
  replace hres := Lib.hid hres
  go_enter Tryd.func21, Tryd.ntmps21
  go_upto_region 5 with (fail)
  generalize (((w.alloc (.cells #[.string m, .string t, .slice AH hs.length cH, .slice AB bn.length cB] 31)).alloc (.cells #[.slice A l.length cA] 29)).alloc (.cells #[.bool true] 4)).alloc (.cells #[.func (.func 31) #[] #[.pointer (some ⟨w.heap.size + 1, 0, none⟩)]] 73) = W0 at hb0 ⊢
  clear hst
  obtain ⟨c0, hc0⟩ : ∃ c0, c0 = c := ⟨c, rfl⟩
  rw [← hc0] at hb0
  have hk0 : c0.kind = 15 := by rw [hc0]; exact hkind
  have HC0 := Lib.hid hc0
  clear hc0 hkind hg
  generalize hf0 : true = f0 at hb0
  replace hf0 := Lib.hid hf0
  have ck := hb0.c 0 (u := .int .i64 15) (by show some (Value.int .i64 c0.kind) = _; rw [hk0])
  go_wp2_with fail
  refine (id_any (⟨#[118, 101, 114, 115, 105, 111, 110, 73, 100]⟩ : ByteArray) g 3 _ _ _ _ f0 l _ hb0.hg (by show 3 < 15; decide) _ hb0.hP hb0.hX hb0.hF).mono ?_
  rintro e W1 ⟨rfl, h1, h2, h3⟩
  have hb1 := hb0.step (cs' := callV { c0 with version := (findP (⟨#[118, 101, 114, 115, 105, 111, 110, 73, 100]⟩ : ByteArray) l).1 } (.slice none 0 0)) h1 h2 h3
  generalize hc1 : { c0 with version := (findP (⟨#[118, 101, 114, 115, 105, 111, 110, 73, 100]⟩ : ByteArray) l).1 } = c1 at hb1
  have hk1 : c1.kind = 15 := by rw [← hc1]; exact hk0
  have HC1 := Lib.hid hc1
  clear hc1 hk0
  generalize hf1 : idOk f0 (findP (⟨#[118, 101, 114, 115, 105, 111, 110, 73, 100]⟩ : ByteArray) l) = f1 at hb1
  replace hf1 := Lib.hid hf1
  clear hb0 ck
  have ck := hb1.c 0 (u := .int .i64 15) (by show some (Value.int .i64 c1.kind) = _; rw [hk1])
  clear h1 h2 h3
  have r0 := hb1.cR 0 (u := .string m) rfl
  have r1 := hb1.cR 1 (u := .string t) rfl
  have r2 := hb1.cR 2 (u := .slice AH hs.length cH) rfl
  have r3 := hb1.cR 3 (u := .slice AB bn.length cB) rfl
  go_wp2_with fail
  refine (get_any m t AH cH hs AB cB bn (⟨#[114, 97, 110, 103, 101]⟩ : ByteArray) _ (hq.H _ hb1.hk) hq.capH (hq.B _ hb1.hk) hq.capB hq.lenH).mono ?_
  have hrs := findP_size (⟨#[114, 97, 110, 103, 101]⟩ : ByteArray) 1000000 hs hhs
  generalize hr : findP (⟨#[114, 97, 110, 103, 101]⟩ : ByteArray) hs = r at hrs ⊢
  replace hr := Lib.hid hr
  obtain ⟨rs, is⟩ := r
  simp only at hrs ⊢
  rintro e W ⟨rfl, hbw⟩
  replace hb1 := hb1.below hbw
  clear hbw ck r0 r1 r2 r3
  have ck := hb1.c 0 (u := .int .i64 15) (by show some (Value.int .i64 c1.kind) = _; rw [hk1])
  have cF := hb1.cF
  cases is
  · as_aux_lemma =>
    go_wp2
    go_ret
    refine ⟨.slice none 0 0, ?_, ?_, ownB_nil _ _ _, hb1.hk⟩
    all_goals rw [show res = (c1, f1) by rw [← hres.out]; unfold besVer; rw [← hf1.out, ← HC1.out, ← hf0.out, HC0.out]]
    all_goals first | rfl | exact hb1.hg
  · as_aux_lemma =>
    go_wp2
    go_ret
    refine ⟨.slice none 0 0, ?_, ?_, ownB_nil _ _ _, hb1.hk⟩
    all_goals rw [show res = (c1, f1) by rw [← hres.out]; unfold besVer; rw [← hf1.out, ← HC1.out, ← hf0.out, HC0.out]]
    all_goals first | rfl | exact hb1.hg
end Go.Proofs.YtehibiplodjofaaDoor
end
section
/- route.beside at some kinds (printed by wip/gen_rq29.py). -/
namespace Go.Proofs.YtehibiplodjofaaDoor
open Go.RowKit Go.Proofs.YtehibiplodjofaaDoorW.PrintWords Go.Proofs.YtehibiplodjofaaDoorW.PrintLast Go.Proofs.YtehibiplodjofaaDoorW.PrintMore
set_option linter.unusedVariables false
set_option linter.unusedSimpArgs false
set_option maxHeartbeats 8000000 in
set_option maxRecDepth 10000 in
theorem beside_17 (c : CallP) (g : Nat) (m t : ByteArray) (AH : Option Addr) (cH : Nat) (hs : List PairT) (AB : Option Addr) (cB : Nat) (bn : List Int) (A : Option Addr) (cA : Nat) (l : List PairT) (w : World) (hkind : c.kind = 17)
    (hg : w.heap[g]? = some (.cells (callV c (.slice none 0 0)) 26 (0, 0))) (hl : l.length ≤ 32) (hls : ∀ q ∈ l, q.f1.size ≤ 1000000) (hC : Kd.C Pr.k41 w A l.length l) (hcA : l.length ≤ cA) (hA : ∀ ad, A = some ad → 0 < l.length → ad.block ≠ g ∧ ad.block < w.heap.size)
    (hq : ReqIn w g AH cH hs AB cB bn) (hhs : ∀ q ∈ hs, q.f1.size ≤ 1000000) :
    Calls Tryd.prog 21 #[.pointer (some ⟨g, 0, none⟩), .agg #[.string m, .string t, .slice AH hs.length cH, .slice AB bn.length cB], .slice A l.length cA] w (BesQ w g (Lib.bytesOf bn) (besPart c l)) := by
  have hb0 := Bes.start (rq := #[.string m, .string t, .slice AH hs.length cH, .slice AB bn.length cB]) hg hl hC hcA hA
  have hlt := hb0.lt
  clear hC hcA hA
  have hst := store_fn (P := Tryd.prog) (w.heap.size + 1 + 1 + 1) (textFn (w.heap.size + 1)) rfl
  unfold textFn at hb0 hst
  generalize hres : besPart c l = res
  replace hres := Lib.hid hres
  go_enter Tryd.func21, Tryd.ntmps21
  go_upto_region 5 with (fail)
  generalize (((w.alloc (.cells #[.string m, .string t, .slice AH hs.length cH, .slice AB bn.length cB] 31)).alloc (.cells #[.slice A l.length cA] 29)).alloc (.cells #[.bool true] 4)).alloc (.cells #[.func (.func 31) #[] #[.pointer (some ⟨w.heap.size + 1, 0, none⟩)]] 73) = W0 at hb0 ⊢
  clear hst
  obtain ⟨c0, hc0⟩ : ∃ c0, c0 = c := ⟨c, rfl⟩
  rw [← hc0] at hb0
  have hk0 : c0.kind = 17 := by rw [hc0]; exact hkind
  have HC0 := Lib.hid hc0
  clear hc0 hkind hg
  generalize hf0 : true = f0 at hb0
  replace hf0 := Lib.hid hf0
  have ck := hb0.c 0 (u := .int .i64 17) (by show some (Value.int .i64 c0.kind) = _; rw [hk0])
  go_wp2_with fail
  refine (id_any (⟨#[117, 112, 108, 111, 97, 100, 73, 100]⟩ : ByteArray) g 4 _ _ _ _ f0 l _ hb0.hg (by show 4 < 15; decide) _ hb0.hP hb0.hX hb0.hF).mono ?_
  rintro e W1 ⟨rfl, h1, h2, h3⟩
  have hb1 := hb0.step (cs' := callV { c0 with upload := (findP (⟨#[117, 112, 108, 111, 97, 100, 73, 100]⟩ : ByteArray) l).1 } (.slice none 0 0)) h1 h2 h3
  generalize hc1 : { c0 with upload := (findP (⟨#[117, 112, 108, 111, 97, 100, 73, 100]⟩ : ByteArray) l).1 } = c1 at hb1
  have hk1 : c1.kind = 17 := by rw [← hc1]; exact hk0
  have HC1 := Lib.hid hc1
  clear hc1 hk0
  generalize hf1 : idOk f0 (findP (⟨#[117, 112, 108, 111, 97, 100, 73, 100]⟩ : ByteArray) l) = f1 at hb1
  replace hf1 := Lib.hid hf1
  clear hb0 ck
  have ck := hb1.c 0 (u := .int .i64 17) (by show some (Value.int .i64 c1.kind) = _; rw [hk1])
  clear h1 h2 h3
  go_wp2_with fail
  refine (count_any (⟨#[112, 97, 114, 116, 78, 117, 109, 98, 101, 114]⟩ : ByteArray) g 5 _ 10000 0 _ _ f1 l _ hb1.hg (by show 5 < 15; decide) _ hb1.hP (Or.inl rfl) hb1.hF).mono ?_
  rintro e W2 ⟨rfl, h1, h2, h3⟩
  have hb2 := hb1.step (cs' := callV { c1 with part := countN 0 (findP (⟨#[112, 97, 114, 116, 78, 117, 109, 98, 101, 114]⟩ : ByteArray) l) } (.slice none 0 0)) h1 h2 h3
  generalize hc2 : { c1 with part := countN 0 (findP (⟨#[112, 97, 114, 116, 78, 117, 109, 98, 101, 114]⟩ : ByteArray) l) } = c2 at hb2
  have hk2 : c2.kind = 17 := by rw [← hc2]; exact hk1
  have HC2 := Lib.hid hc2
  clear hc2 hk1
  generalize hf2 : countOk f1 10000 (findP (⟨#[112, 97, 114, 116, 78, 117, 109, 98, 101, 114]⟩ : ByteArray) l) = f2 at hb2
  replace hf2 := Lib.hid hf2
  clear hb1 ck
  have ck := hb2.c 0 (u := .int .i64 17) (by show some (Value.int .i64 c2.kind) = _; rw [hk2])
  clear h1 h2 h3
  have hpart : c2.part = countN 0 (findP (⟨#[112, 97, 114, 116, 78, 117, 109, 98, 101, 114]⟩ : ByteArray) l) := by rw [← HC2.out]
  generalize hcn : countN 0 (findP (⟨#[112, 97, 114, 116, 78, 117, 109, 98, 101, 114]⟩ : ByteArray) l) = cn at hpart
  replace hcn := Lib.hid hcn
  have c5 := hb2.c 5 (u := .int .i64 cn) (by show some (Value.int .i64 c2.part) = _; rw [hpart])
  have cF := hb2.cF
  have fF := hb2.fF
  clear hpart
  have hb3 := hb2.setF (f2 && decide (0 < cn))
  have ck3 := hb3.c 0 (u := .int .i64 17) (by show some (Value.int .i64 c2.kind) = _; rw [hk2])
  have hcut : f2 = false ∨ (f2 = true ∧ 0 < cn) ∨ (f2 = true ∧ ¬ 0 < cn) := by cases f2 <;> by_cases h : 0 < cn <;> simp [h]
  rcases hcut with hF | ⟨hF, hpos⟩ | ⟨hF, hpos⟩
  · as_aux_lemma =>
    rw [hF] at cF hb3 ck3
    simp only [Bool.false_and] at hb3 ck3
    have HF := Lib.hid (show (f2 && decide (0 < cn)) = false by rw [hF]; rfl)
    clear hF
    go_upto_region 30 with (fail)
    obtain ⟨f3, hf3⟩ : ∃ x : Bool, false = x := ⟨_, rfl⟩
    generalize W2.setCell ⟨w.heap.size + 1 + 1, 0, none⟩ (.bool false) = W3 at hb3 ck3 ⊢
    rw [hf3] at hb3
    replace hf3 := Lib.hid hf3
    clear c5 cF fF ck hb2
    have ck := ck3
    clear ck3
    obtain ⟨c3, hc3⟩ : ∃ x, c2 = x := ⟨_, rfl⟩
    rw [hc3] at hb3 hk2
    have HC3 := Lib.hid hc3
    clear hc3
    have hk3 := hk2
    clear hk2
    have r0 := hb3.cR 0 (u := .string m) rfl
    have r1 := hb3.cR 1 (u := .string t) rfl
    have r2 := hb3.cR 2 (u := .slice AH hs.length cH) rfl
    have r3 := hb3.cR 3 (u := .slice AB bn.length cB) rfl
    go_wp2_with fail
    refine (get_any m t AH cH hs AB cB bn (⟨#[114, 97, 110, 103, 101]⟩ : ByteArray) _ (hq.H _ hb3.hk) hq.capH (hq.B _ hb3.hk) hq.capB hq.lenH).mono ?_
    have hrs := findP_size (⟨#[114, 97, 110, 103, 101]⟩ : ByteArray) 1000000 hs hhs
    generalize hr : findP (⟨#[114, 97, 110, 103, 101]⟩ : ByteArray) hs = r at hrs ⊢
    replace hr := Lib.hid hr
    obtain ⟨rs, is⟩ := r
    simp only at hrs ⊢
    rintro e W ⟨rfl, hbw⟩
    replace hb3 := hb3.below hbw
    clear hbw ck r0 r1 r2 r3
    have ck := hb3.c 0 (u := .int .i64 17) (by show some (Value.int .i64 c3.kind) = _; rw [hk3])
    have cF := hb3.cF
    cases is
    · as_aux_lemma =>
      have kc3 := hb3.cR 3 (u := .slice AB bn.length cB) rfl
      have hsg := hq.S _ hb3.hk
      have hok := hq.ok
      rw [hok] at hsg
      have hnil : OwnB W W.heap.size 5 (.slice none 0 0) [] := ownB_nil _ _ _
      obtain ⟨i0, hif, hz0, hz1, hz2⟩ := info_parts infoU8
      have hlz : ([] : List UInt8).length + (Lib.bytesOf bn).length ≤ 1000000000 := by rw [hok]; simp; have := hq.lenB; omega
      go_wp2_with (at_builtin; refine wpList_appB rfl _ _ 24 24 rfl 5 i0 Tryd.underlying24 hif hz0 hz1 hz2 W.heap.size (.slice none 0 0) [] rfl hnil _ (Lib.bytesOf bn) rfl (by rw [hok]; exact hsg) hlz (Nat.le_refl _) ?_)
      intro v4 V hown hgrow
      try rw [List.nil_append] at hown
      obtain ⟨A5, c5, hv5, hc5, -⟩ := hown.form
      rw [hok] at hv5 hc5
      subst hv5
      have hbV := hb3.grownV hgrow
      have kc14 := hbV.c 14 (u := .slice none 0 0) rfl
      have kf14 := hbV.fz 14
      have hbS := hbV.set 14 (.slice A5 bn.length c5)
      have cFS := hbS.cF
      have ckV := hbV.c 0 (u := .int .i64 17) (by show some (Value.int .i64 c3.kind) = _; rw [hk3])
      have hownS : OwnB (V.setCell ⟨g, 14, none⟩ (.slice A5 bn.length c5)) w.heap.size 5 (.slice A5 bn.length c5) (Lib.bytesOf bn) := OwnB.le (hown.keep fun k hk => by
        have h1 := (hown.lt k hk).1
        have h2 := hb3.hk.size
        exact Below.heap_setCell V ⟨g, 14, none⟩ _ k (by show k ≠ g; omega)) hb3.hk.size
      go_wp2
      go_ret
      refine ⟨.slice A5 bn.length c5, ?_, ?_, hownS, hbS.hk⟩
      all_goals rw [show res = (c3, f3) by rw [← hres.out]; simp only [besPart, besUp]; rw [show countOk (idOk true (findP (⟨#[117, 112, 108, 111, 97, 100, 73, 100]⟩ : ByteArray) l)) 10000 (findP (⟨#[112, 97, 114, 116, 78, 117, 109, 98, 101, 114]⟩ : ByteArray) l) = f2 by rw [← hf2.out, ← hf1.out, ← hf0.out], hcn.out, HF.out, hf3.out, ← HC3.out, ← HC2.out, hcn.out, ← HC1.out, HC0.out]]
      all_goals first | rfl | exact hbS.hg
    · as_aux_lemma =>
      have kc3 := hb3.cR 3 (u := .slice AB bn.length cB) rfl
      have hsg := hq.S _ hb3.hk
      have hok := hq.ok
      rw [hok] at hsg
      have hnil : OwnB W W.heap.size 5 (.slice none 0 0) [] := ownB_nil _ _ _
      obtain ⟨i0, hif, hz0, hz1, hz2⟩ := info_parts infoU8
      have hlz : ([] : List UInt8).length + (Lib.bytesOf bn).length ≤ 1000000000 := by rw [hok]; simp; have := hq.lenB; omega
      go_wp2_with (at_builtin; refine wpList_appB rfl _ _ 24 24 rfl 5 i0 Tryd.underlying24 hif hz0 hz1 hz2 W.heap.size (.slice none 0 0) [] rfl hnil _ (Lib.bytesOf bn) rfl (by rw [hok]; exact hsg) hlz (Nat.le_refl _) ?_)
      intro v4 V hown hgrow
      try rw [List.nil_append] at hown
      obtain ⟨A5, c5, hv5, hc5, -⟩ := hown.form
      rw [hok] at hv5 hc5
      subst hv5
      have hbV := hb3.grownV hgrow
      have kc14 := hbV.c 14 (u := .slice none 0 0) rfl
      have kf14 := hbV.fz 14
      have hbS := hbV.set 14 (.slice A5 bn.length c5)
      have cFS := hbS.cF
      have ckV := hbV.c 0 (u := .int .i64 17) (by show some (Value.int .i64 c3.kind) = _; rw [hk3])
      have hownS : OwnB (V.setCell ⟨g, 14, none⟩ (.slice A5 bn.length c5)) w.heap.size 5 (.slice A5 bn.length c5) (Lib.bytesOf bn) := OwnB.le (hown.keep fun k hk => by
        have h1 := (hown.lt k hk).1
        have h2 := hb3.hk.size
        exact Below.heap_setCell V ⟨g, 14, none⟩ _ k (by show k ≠ g; omega)) hb3.hk.size
      go_wp2
      go_ret
      refine ⟨.slice A5 bn.length c5, ?_, ?_, hownS, hbS.hk⟩
      all_goals rw [show res = (c3, f3) by rw [← hres.out]; simp only [besPart, besUp]; rw [show countOk (idOk true (findP (⟨#[117, 112, 108, 111, 97, 100, 73, 100]⟩ : ByteArray) l)) 10000 (findP (⟨#[112, 97, 114, 116, 78, 117, 109, 98, 101, 114]⟩ : ByteArray) l) = f2 by rw [← hf2.out, ← hf1.out, ← hf0.out], hcn.out, HF.out, hf3.out, ← HC3.out, ← HC2.out, hcn.out, ← HC1.out, HC0.out]]
      all_goals first | rfl | exact hbS.hg
  · as_aux_lemma =>
    have hd : decide (0 < cn) = true := decide_eq_true hpos
    rw [hF] at cF hb3 ck3
    simp only [Bool.true_and, hd] at hb3 ck3
    have HF := Lib.hid (show (f2 && decide (0 < cn)) = true by rw [hF]; simp [hpos])
    clear hF
    go_upto_region 30 with (fail)
    obtain ⟨f3, hf3⟩ : ∃ x : Bool, true = x := ⟨_, rfl⟩
    generalize W2.setCell ⟨w.heap.size + 1 + 1, 0, none⟩ (.bool true) = W3 at hb3 ck3 ⊢
    rw [hf3] at hb3
    replace hf3 := Lib.hid hf3
    clear c5 cF fF ck hb2
    have ck := ck3
    clear ck3
    obtain ⟨c3, hc3⟩ : ∃ x, c2 = x := ⟨_, rfl⟩
    rw [hc3] at hb3 hk2
    have HC3 := Lib.hid hc3
    clear hc3
    have hk3 := hk2
    clear hk2
    have r0 := hb3.cR 0 (u := .string m) rfl
    have r1 := hb3.cR 1 (u := .string t) rfl
    have r2 := hb3.cR 2 (u := .slice AH hs.length cH) rfl
    have r3 := hb3.cR 3 (u := .slice AB bn.length cB) rfl
    go_wp2_with fail
    refine (get_any m t AH cH hs AB cB bn (⟨#[114, 97, 110, 103, 101]⟩ : ByteArray) _ (hq.H _ hb3.hk) hq.capH (hq.B _ hb3.hk) hq.capB hq.lenH).mono ?_
    have hrs := findP_size (⟨#[114, 97, 110, 103, 101]⟩ : ByteArray) 1000000 hs hhs
    generalize hr : findP (⟨#[114, 97, 110, 103, 101]⟩ : ByteArray) hs = r at hrs ⊢
    replace hr := Lib.hid hr
    obtain ⟨rs, is⟩ := r
    simp only at hrs ⊢
    rintro e W ⟨rfl, hbw⟩
    replace hb3 := hb3.below hbw
    clear hbw ck r0 r1 r2 r3
    have ck := hb3.c 0 (u := .int .i64 17) (by show some (Value.int .i64 c3.kind) = _; rw [hk3])
    have cF := hb3.cF
    cases is
    · as_aux_lemma =>
      have kc3 := hb3.cR 3 (u := .slice AB bn.length cB) rfl
      have hsg := hq.S _ hb3.hk
      have hok := hq.ok
      rw [hok] at hsg
      have hnil : OwnB W W.heap.size 5 (.slice none 0 0) [] := ownB_nil _ _ _
      obtain ⟨i0, hif, hz0, hz1, hz2⟩ := info_parts infoU8
      have hlz : ([] : List UInt8).length + (Lib.bytesOf bn).length ≤ 1000000000 := by rw [hok]; simp; have := hq.lenB; omega
      go_wp2_with (at_builtin; refine wpList_appB rfl _ _ 24 24 rfl 5 i0 Tryd.underlying24 hif hz0 hz1 hz2 W.heap.size (.slice none 0 0) [] rfl hnil _ (Lib.bytesOf bn) rfl (by rw [hok]; exact hsg) hlz (Nat.le_refl _) ?_)
      intro v4 V hown hgrow
      try rw [List.nil_append] at hown
      obtain ⟨A5, c5, hv5, hc5, -⟩ := hown.form
      rw [hok] at hv5 hc5
      subst hv5
      have hbV := hb3.grownV hgrow
      have kc14 := hbV.c 14 (u := .slice none 0 0) rfl
      have kf14 := hbV.fz 14
      have hbS := hbV.set 14 (.slice A5 bn.length c5)
      have cFS := hbS.cF
      have ckV := hbV.c 0 (u := .int .i64 17) (by show some (Value.int .i64 c3.kind) = _; rw [hk3])
      have hownS : OwnB (V.setCell ⟨g, 14, none⟩ (.slice A5 bn.length c5)) w.heap.size 5 (.slice A5 bn.length c5) (Lib.bytesOf bn) := OwnB.le (hown.keep fun k hk => by
        have h1 := (hown.lt k hk).1
        have h2 := hb3.hk.size
        exact Below.heap_setCell V ⟨g, 14, none⟩ _ k (by show k ≠ g; omega)) hb3.hk.size
      go_wp2
      go_ret
      refine ⟨.slice A5 bn.length c5, ?_, ?_, hownS, hbS.hk⟩
      all_goals rw [show res = (c3, f3) by rw [← hres.out]; simp only [besPart, besUp]; rw [show countOk (idOk true (findP (⟨#[117, 112, 108, 111, 97, 100, 73, 100]⟩ : ByteArray) l)) 10000 (findP (⟨#[112, 97, 114, 116, 78, 117, 109, 98, 101, 114]⟩ : ByteArray) l) = f2 by rw [← hf2.out, ← hf1.out, ← hf0.out], hcn.out, HF.out, hf3.out, ← HC3.out, ← HC2.out, hcn.out, ← HC1.out, HC0.out]]
      all_goals first | rfl | exact hbS.hg
    · as_aux_lemma =>
      have kc3 := hb3.cR 3 (u := .slice AB bn.length cB) rfl
      have hsg := hq.S _ hb3.hk
      have hok := hq.ok
      rw [hok] at hsg
      have hnil : OwnB W W.heap.size 5 (.slice none 0 0) [] := ownB_nil _ _ _
      obtain ⟨i0, hif, hz0, hz1, hz2⟩ := info_parts infoU8
      have hlz : ([] : List UInt8).length + (Lib.bytesOf bn).length ≤ 1000000000 := by rw [hok]; simp; have := hq.lenB; omega
      go_wp2_with (at_builtin; refine wpList_appB rfl _ _ 24 24 rfl 5 i0 Tryd.underlying24 hif hz0 hz1 hz2 W.heap.size (.slice none 0 0) [] rfl hnil _ (Lib.bytesOf bn) rfl (by rw [hok]; exact hsg) hlz (Nat.le_refl _) ?_)
      intro v4 V hown hgrow
      try rw [List.nil_append] at hown
      obtain ⟨A5, c5, hv5, hc5, -⟩ := hown.form
      rw [hok] at hv5 hc5
      subst hv5
      have hbV := hb3.grownV hgrow
      have kc14 := hbV.c 14 (u := .slice none 0 0) rfl
      have kf14 := hbV.fz 14
      have hbS := hbV.set 14 (.slice A5 bn.length c5)
      have cFS := hbS.cF
      have ckV := hbV.c 0 (u := .int .i64 17) (by show some (Value.int .i64 c3.kind) = _; rw [hk3])
      have hownS : OwnB (V.setCell ⟨g, 14, none⟩ (.slice A5 bn.length c5)) w.heap.size 5 (.slice A5 bn.length c5) (Lib.bytesOf bn) := OwnB.le (hown.keep fun k hk => by
        have h1 := (hown.lt k hk).1
        have h2 := hb3.hk.size
        exact Below.heap_setCell V ⟨g, 14, none⟩ _ k (by show k ≠ g; omega)) hb3.hk.size
      go_wp2
      go_ret
      refine ⟨.slice A5 bn.length c5, ?_, ?_, hownS, hbS.hk⟩
      all_goals rw [show res = (c3, f3) by rw [← hres.out]; simp only [besPart, besUp]; rw [show countOk (idOk true (findP (⟨#[117, 112, 108, 111, 97, 100, 73, 100]⟩ : ByteArray) l)) 10000 (findP (⟨#[112, 97, 114, 116, 78, 117, 109, 98, 101, 114]⟩ : ByteArray) l) = f2 by rw [← hf2.out, ← hf1.out, ← hf0.out], hcn.out, HF.out, hf3.out, ← HC3.out, ← HC2.out, hcn.out, ← HC1.out, HC0.out]]
      all_goals first | rfl | exact hbS.hg
  · as_aux_lemma =>
    have hd : decide (0 < cn) = false := decide_eq_false hpos
    rw [hF] at cF hb3 ck3
    simp only [Bool.true_and, hd] at hb3 ck3
    have HF := Lib.hid (show (f2 && decide (0 < cn)) = false by rw [hF]; simp [hpos])
    clear hF
    go_upto_region 30 with (fail)
    obtain ⟨f3, hf3⟩ : ∃ x : Bool, false = x := ⟨_, rfl⟩
    generalize W2.setCell ⟨w.heap.size + 1 + 1, 0, none⟩ (.bool false) = W3 at hb3 ck3 ⊢
    rw [hf3] at hb3
    replace hf3 := Lib.hid hf3
    clear c5 cF fF ck hb2
    have ck := ck3
    clear ck3
    obtain ⟨c3, hc3⟩ : ∃ x, c2 = x := ⟨_, rfl⟩
    rw [hc3] at hb3 hk2
    have HC3 := Lib.hid hc3
    clear hc3
    have hk3 := hk2
    clear hk2
    have r0 := hb3.cR 0 (u := .string m) rfl
    have r1 := hb3.cR 1 (u := .string t) rfl
    have r2 := hb3.cR 2 (u := .slice AH hs.length cH) rfl
    have r3 := hb3.cR 3 (u := .slice AB bn.length cB) rfl
    go_wp2_with fail
    refine (get_any m t AH cH hs AB cB bn (⟨#[114, 97, 110, 103, 101]⟩ : ByteArray) _ (hq.H _ hb3.hk) hq.capH (hq.B _ hb3.hk) hq.capB hq.lenH).mono ?_
    have hrs := findP_size (⟨#[114, 97, 110, 103, 101]⟩ : ByteArray) 1000000 hs hhs
    generalize hr : findP (⟨#[114, 97, 110, 103, 101]⟩ : ByteArray) hs = r at hrs ⊢
    replace hr := Lib.hid hr
    obtain ⟨rs, is⟩ := r
    simp only at hrs ⊢
    rintro e W ⟨rfl, hbw⟩
    replace hb3 := hb3.below hbw
    clear hbw ck r0 r1 r2 r3
    have ck := hb3.c 0 (u := .int .i64 17) (by show some (Value.int .i64 c3.kind) = _; rw [hk3])
    have cF := hb3.cF
    cases is
    · as_aux_lemma =>
      have kc3 := hb3.cR 3 (u := .slice AB bn.length cB) rfl
      have hsg := hq.S _ hb3.hk
      have hok := hq.ok
      rw [hok] at hsg
      have hnil : OwnB W W.heap.size 5 (.slice none 0 0) [] := ownB_nil _ _ _
      obtain ⟨i0, hif, hz0, hz1, hz2⟩ := info_parts infoU8
      have hlz : ([] : List UInt8).length + (Lib.bytesOf bn).length ≤ 1000000000 := by rw [hok]; simp; have := hq.lenB; omega
      go_wp2_with (at_builtin; refine wpList_appB rfl _ _ 24 24 rfl 5 i0 Tryd.underlying24 hif hz0 hz1 hz2 W.heap.size (.slice none 0 0) [] rfl hnil _ (Lib.bytesOf bn) rfl (by rw [hok]; exact hsg) hlz (Nat.le_refl _) ?_)
      intro v4 V hown hgrow
      try rw [List.nil_append] at hown
      obtain ⟨A5, c5, hv5, hc5, -⟩ := hown.form
      rw [hok] at hv5 hc5
      subst hv5
      have hbV := hb3.grownV hgrow
      have kc14 := hbV.c 14 (u := .slice none 0 0) rfl
      have kf14 := hbV.fz 14
      have hbS := hbV.set 14 (.slice A5 bn.length c5)
      have cFS := hbS.cF
      have ckV := hbV.c 0 (u := .int .i64 17) (by show some (Value.int .i64 c3.kind) = _; rw [hk3])
      have hownS : OwnB (V.setCell ⟨g, 14, none⟩ (.slice A5 bn.length c5)) w.heap.size 5 (.slice A5 bn.length c5) (Lib.bytesOf bn) := OwnB.le (hown.keep fun k hk => by
        have h1 := (hown.lt k hk).1
        have h2 := hb3.hk.size
        exact Below.heap_setCell V ⟨g, 14, none⟩ _ k (by show k ≠ g; omega)) hb3.hk.size
      go_wp2
      go_ret
      refine ⟨.slice A5 bn.length c5, ?_, ?_, hownS, hbS.hk⟩
      all_goals rw [show res = (c3, f3) by rw [← hres.out]; simp only [besPart, besUp]; rw [show countOk (idOk true (findP (⟨#[117, 112, 108, 111, 97, 100, 73, 100]⟩ : ByteArray) l)) 10000 (findP (⟨#[112, 97, 114, 116, 78, 117, 109, 98, 101, 114]⟩ : ByteArray) l) = f2 by rw [← hf2.out, ← hf1.out, ← hf0.out], hcn.out, HF.out, hf3.out, ← HC3.out, ← HC2.out, hcn.out, ← HC1.out, HC0.out]]
      all_goals first | rfl | exact hbS.hg
    · as_aux_lemma =>
      have kc3 := hb3.cR 3 (u := .slice AB bn.length cB) rfl
      have hsg := hq.S _ hb3.hk
      have hok := hq.ok
      rw [hok] at hsg
      have hnil : OwnB W W.heap.size 5 (.slice none 0 0) [] := ownB_nil _ _ _
      obtain ⟨i0, hif, hz0, hz1, hz2⟩ := info_parts infoU8
      have hlz : ([] : List UInt8).length + (Lib.bytesOf bn).length ≤ 1000000000 := by rw [hok]; simp; have := hq.lenB; omega
      go_wp2_with (at_builtin; refine wpList_appB rfl _ _ 24 24 rfl 5 i0 Tryd.underlying24 hif hz0 hz1 hz2 W.heap.size (.slice none 0 0) [] rfl hnil _ (Lib.bytesOf bn) rfl (by rw [hok]; exact hsg) hlz (Nat.le_refl _) ?_)
      intro v4 V hown hgrow
      try rw [List.nil_append] at hown
      obtain ⟨A5, c5, hv5, hc5, -⟩ := hown.form
      rw [hok] at hv5 hc5
      subst hv5
      have hbV := hb3.grownV hgrow
      have kc14 := hbV.c 14 (u := .slice none 0 0) rfl
      have kf14 := hbV.fz 14
      have hbS := hbV.set 14 (.slice A5 bn.length c5)
      have cFS := hbS.cF
      have ckV := hbV.c 0 (u := .int .i64 17) (by show some (Value.int .i64 c3.kind) = _; rw [hk3])
      have hownS : OwnB (V.setCell ⟨g, 14, none⟩ (.slice A5 bn.length c5)) w.heap.size 5 (.slice A5 bn.length c5) (Lib.bytesOf bn) := OwnB.le (hown.keep fun k hk => by
        have h1 := (hown.lt k hk).1
        have h2 := hb3.hk.size
        exact Below.heap_setCell V ⟨g, 14, none⟩ _ k (by show k ≠ g; omega)) hb3.hk.size
      go_wp2
      go_ret
      refine ⟨.slice A5 bn.length c5, ?_, ?_, hownS, hbS.hk⟩
      all_goals rw [show res = (c3, f3) by rw [← hres.out]; simp only [besPart, besUp]; rw [show countOk (idOk true (findP (⟨#[117, 112, 108, 111, 97, 100, 73, 100]⟩ : ByteArray) l)) 10000 (findP (⟨#[112, 97, 114, 116, 78, 117, 109, 98, 101, 114]⟩ : ByteArray) l) = f2 by rw [← hf2.out, ← hf1.out, ← hf0.out], hcn.out, HF.out, hf3.out, ← HC3.out, ← HC2.out, hcn.out, ← HC1.out, HC0.out]]
      all_goals first | rfl | exact hbS.hg
set_option maxHeartbeats 8000000 in
set_option maxRecDepth 10000 in
theorem beside_18 (c : CallP) (g : Nat) (m t : ByteArray) (AH : Option Addr) (cH : Nat) (hs : List PairT) (AB : Option Addr) (cB : Nat) (bn : List Int) (A : Option Addr) (cA : Nat) (l : List PairT) (w : World) (hkind : c.kind = 18)
    (hg : w.heap[g]? = some (.cells (callV c (.slice none 0 0)) 26 (0, 0))) (hl : l.length ≤ 32) (hls : ∀ q ∈ l, q.f1.size ≤ 1000000) (hC : Kd.C Pr.k41 w A l.length l) (hcA : l.length ≤ cA) (hA : ∀ ad, A = some ad → 0 < l.length → ad.block ≠ g ∧ ad.block < w.heap.size)
    (hq : ReqIn w g AH cH hs AB cB bn) (hhs : ∀ q ∈ hs, q.f1.size ≤ 1000000) :
    Calls Tryd.prog 21 #[.pointer (some ⟨g, 0, none⟩), .agg #[.string m, .string t, .slice AH hs.length cH, .slice AB bn.length cB], .slice A l.length cA] w (BesQ w g [] (besUp c l)) := by
  have hb0 := Bes.start (rq := #[.string m, .string t, .slice AH hs.length cH, .slice AB bn.length cB]) hg hl hC hcA hA
  have hlt := hb0.lt
  clear hC hcA hA
  have hst := store_fn (P := Tryd.prog) (w.heap.size + 1 + 1 + 1) (textFn (w.heap.size + 1)) rfl
  unfold textFn at hb0 hst
  generalize hres : besUp c l = res
  replace hres := Lib.hid hres
  go_enter Tryd.func21, Tryd.ntmps21
  go_upto_region 5 with (fail)
  generalize (((w.alloc (.cells #[.string m, .string t, .slice AH hs.length cH, .slice AB bn.length cB] 31)).alloc (.cells #[.slice A l.length cA] 29)).alloc (.cells #[.bool true] 4)).alloc (.cells #[.func (.func 31) #[] #[.pointer (some ⟨w.heap.size + 1, 0, none⟩)]] 73) = W0 at hb0 ⊢
  clear hst
  obtain ⟨c0, hc0⟩ : ∃ c0, c0 = c := ⟨c, rfl⟩
  rw [← hc0] at hb0
  have hk0 : c0.kind = 18 := by rw [hc0]; exact hkind
  have HC0 := Lib.hid hc0
  clear hc0 hkind hg
  generalize hf0 : true = f0 at hb0
  replace hf0 := Lib.hid hf0
  have ck := hb0.c 0 (u := .int .i64 18) (by show some (Value.int .i64 c0.kind) = _; rw [hk0])
  go_wp2_with fail
  refine (id_any (⟨#[117, 112, 108, 111, 97, 100, 73, 100]⟩ : ByteArray) g 4 _ _ _ _ f0 l _ hb0.hg (by show 4 < 15; decide) _ hb0.hP hb0.hX hb0.hF).mono ?_
  rintro e W1 ⟨rfl, h1, h2, h3⟩
  have hb1 := hb0.step (cs' := callV { c0 with upload := (findP (⟨#[117, 112, 108, 111, 97, 100, 73, 100]⟩ : ByteArray) l).1 } (.slice none 0 0)) h1 h2 h3
  generalize hc1 : { c0 with upload := (findP (⟨#[117, 112, 108, 111, 97, 100, 73, 100]⟩ : ByteArray) l).1 } = c1 at hb1
  have hk1 : c1.kind = 18 := by rw [← hc1]; exact hk0
  have HC1 := Lib.hid hc1
  clear hc1 hk0
  generalize hf1 : idOk f0 (findP (⟨#[117, 112, 108, 111, 97, 100, 73, 100]⟩ : ByteArray) l) = f1 at hb1
  replace hf1 := Lib.hid hf1
  clear hb0 ck
  have ck := hb1.c 0 (u := .int .i64 18) (by show some (Value.int .i64 c1.kind) = _; rw [hk1])
  clear h1 h2 h3
  have r0 := hb1.cR 0 (u := .string m) rfl
  have r1 := hb1.cR 1 (u := .string t) rfl
  have r2 := hb1.cR 2 (u := .slice AH hs.length cH) rfl
  have r3 := hb1.cR 3 (u := .slice AB bn.length cB) rfl
  go_wp2_with fail
  refine (get_any m t AH cH hs AB cB bn (⟨#[114, 97, 110, 103, 101]⟩ : ByteArray) _ (hq.H _ hb1.hk) hq.capH (hq.B _ hb1.hk) hq.capB hq.lenH).mono ?_
  have hrs := findP_size (⟨#[114, 97, 110, 103, 101]⟩ : ByteArray) 1000000 hs hhs
  generalize hr : findP (⟨#[114, 97, 110, 103, 101]⟩ : ByteArray) hs = r at hrs ⊢
  replace hr := Lib.hid hr
  obtain ⟨rs, is⟩ := r
  simp only at hrs ⊢
  rintro e W ⟨rfl, hbw⟩
  replace hb1 := hb1.below hbw
  clear hbw ck r0 r1 r2 r3
  have ck := hb1.c 0 (u := .int .i64 18) (by show some (Value.int .i64 c1.kind) = _; rw [hk1])
  have cF := hb1.cF
  cases is
  · as_aux_lemma =>
    go_wp2
    go_ret
    refine ⟨.slice none 0 0, ?_, ?_, ownB_nil _ _ _, hb1.hk⟩
    all_goals rw [show res = (c1, f1) by rw [← hres.out]; unfold besUp; rw [← hf1.out, ← HC1.out, ← hf0.out, HC0.out]]
    all_goals first | rfl | exact hb1.hg
  · as_aux_lemma =>
    go_wp2
    go_ret
    refine ⟨.slice none 0 0, ?_, ?_, ownB_nil _ _ _, hb1.hk⟩
    all_goals rw [show res = (c1, f1) by rw [← hres.out]; unfold besUp; rw [← hf1.out, ← HC1.out, ← hf0.out, HC0.out]]
    all_goals first | rfl | exact hb1.hg
set_option maxHeartbeats 8000000 in
set_option maxRecDepth 10000 in
theorem beside_19 (c : CallP) (g : Nat) (m t : ByteArray) (AH : Option Addr) (cH : Nat) (hs : List PairT) (AB : Option Addr) (cB : Nat) (bn : List Int) (A : Option Addr) (cA : Nat) (l : List PairT) (w : World) (hkind : c.kind = 19)
    (hg : w.heap[g]? = some (.cells (callV c (.slice none 0 0)) 26 (0, 0))) (hl : l.length ≤ 32) (hls : ∀ q ∈ l, q.f1.size ≤ 1000000) (hC : Kd.C Pr.k41 w A l.length l) (hcA : l.length ≤ cA) (hA : ∀ ad, A = some ad → 0 < l.length → ad.block ≠ g ∧ ad.block < w.heap.size)
    (hq : ReqIn w g AH cH hs AB cB bn) (hhs : ∀ q ∈ hs, q.f1.size ≤ 1000000) :
    Calls Tryd.prog 21 #[.pointer (some ⟨g, 0, none⟩), .agg #[.string m, .string t, .slice AH hs.length cH, .slice AB bn.length cB], .slice A l.length cA] w (BesQ w g (Lib.bytesOf bn) (besUp c l)) := by
  have hb0 := Bes.start (rq := #[.string m, .string t, .slice AH hs.length cH, .slice AB bn.length cB]) hg hl hC hcA hA
  have hlt := hb0.lt
  clear hC hcA hA
  have hst := store_fn (P := Tryd.prog) (w.heap.size + 1 + 1 + 1) (textFn (w.heap.size + 1)) rfl
  unfold textFn at hb0 hst
  generalize hres : besUp c l = res
  replace hres := Lib.hid hres
  go_enter Tryd.func21, Tryd.ntmps21
  go_upto_region 5 with (fail)
  generalize (((w.alloc (.cells #[.string m, .string t, .slice AH hs.length cH, .slice AB bn.length cB] 31)).alloc (.cells #[.slice A l.length cA] 29)).alloc (.cells #[.bool true] 4)).alloc (.cells #[.func (.func 31) #[] #[.pointer (some ⟨w.heap.size + 1, 0, none⟩)]] 73) = W0 at hb0 ⊢
  clear hst
  obtain ⟨c0, hc0⟩ : ∃ c0, c0 = c := ⟨c, rfl⟩
  rw [← hc0] at hb0
  have hk0 : c0.kind = 19 := by rw [hc0]; exact hkind
  have HC0 := Lib.hid hc0
  clear hc0 hkind hg
  generalize hf0 : true = f0 at hb0
  replace hf0 := Lib.hid hf0
  have ck := hb0.c 0 (u := .int .i64 19) (by show some (Value.int .i64 c0.kind) = _; rw [hk0])
  go_wp2_with fail
  refine (id_any (⟨#[117, 112, 108, 111, 97, 100, 73, 100]⟩ : ByteArray) g 4 _ _ _ _ f0 l _ hb0.hg (by show 4 < 15; decide) _ hb0.hP hb0.hX hb0.hF).mono ?_
  rintro e W1 ⟨rfl, h1, h2, h3⟩
  have hb1 := hb0.step (cs' := callV { c0 with upload := (findP (⟨#[117, 112, 108, 111, 97, 100, 73, 100]⟩ : ByteArray) l).1 } (.slice none 0 0)) h1 h2 h3
  generalize hc1 : { c0 with upload := (findP (⟨#[117, 112, 108, 111, 97, 100, 73, 100]⟩ : ByteArray) l).1 } = c1 at hb1
  have hk1 : c1.kind = 19 := by rw [← hc1]; exact hk0
  have HC1 := Lib.hid hc1
  clear hc1 hk0
  generalize hf1 : idOk f0 (findP (⟨#[117, 112, 108, 111, 97, 100, 73, 100]⟩ : ByteArray) l) = f1 at hb1
  replace hf1 := Lib.hid hf1
  clear hb0 ck
  have ck := hb1.c 0 (u := .int .i64 19) (by show some (Value.int .i64 c1.kind) = _; rw [hk1])
  clear h1 h2 h3
  have r0 := hb1.cR 0 (u := .string m) rfl
  have r1 := hb1.cR 1 (u := .string t) rfl
  have r2 := hb1.cR 2 (u := .slice AH hs.length cH) rfl
  have r3 := hb1.cR 3 (u := .slice AB bn.length cB) rfl
  go_wp2_with fail
  refine (get_any m t AH cH hs AB cB bn (⟨#[114, 97, 110, 103, 101]⟩ : ByteArray) _ (hq.H _ hb1.hk) hq.capH (hq.B _ hb1.hk) hq.capB hq.lenH).mono ?_
  have hrs := findP_size (⟨#[114, 97, 110, 103, 101]⟩ : ByteArray) 1000000 hs hhs
  generalize hr : findP (⟨#[114, 97, 110, 103, 101]⟩ : ByteArray) hs = r at hrs ⊢
  replace hr := Lib.hid hr
  obtain ⟨rs, is⟩ := r
  simp only at hrs ⊢
  rintro e W ⟨rfl, hbw⟩
  replace hb1 := hb1.below hbw
  clear hbw ck r0 r1 r2 r3
  have ck := hb1.c 0 (u := .int .i64 19) (by show some (Value.int .i64 c1.kind) = _; rw [hk1])
  have cF := hb1.cF
  cases is
  · as_aux_lemma =>
    have kc3 := hb1.cR 3 (u := .slice AB bn.length cB) rfl
    have hsg := hq.S _ hb1.hk
    have hok := hq.ok
    rw [hok] at hsg
    have hnil : OwnB W W.heap.size 5 (.slice none 0 0) [] := ownB_nil _ _ _
    obtain ⟨i0, hif, hz0, hz1, hz2⟩ := info_parts infoU8
    have hlz : ([] : List UInt8).length + (Lib.bytesOf bn).length ≤ 1000000000 := by rw [hok]; simp; have := hq.lenB; omega
    go_wp2_with (at_builtin; refine wpList_appB rfl _ _ 24 24 rfl 5 i0 Tryd.underlying24 hif hz0 hz1 hz2 W.heap.size (.slice none 0 0) [] rfl hnil _ (Lib.bytesOf bn) rfl (by rw [hok]; exact hsg) hlz (Nat.le_refl _) ?_)
    intro v4 V hown hgrow
    try rw [List.nil_append] at hown
    obtain ⟨A5, c5, hv5, hc5, -⟩ := hown.form
    rw [hok] at hv5 hc5
    subst hv5
    have hbV := hb1.grownV hgrow
    have kc14 := hbV.c 14 (u := .slice none 0 0) rfl
    have kf14 := hbV.fz 14
    have hbS := hbV.set 14 (.slice A5 bn.length c5)
    have cFS := hbS.cF
    have ckV := hbV.c 0 (u := .int .i64 19) (by show some (Value.int .i64 c1.kind) = _; rw [hk1])
    have hownS : OwnB (V.setCell ⟨g, 14, none⟩ (.slice A5 bn.length c5)) w.heap.size 5 (.slice A5 bn.length c5) (Lib.bytesOf bn) := OwnB.le (hown.keep fun k hk => by
      have h1 := (hown.lt k hk).1
      have h2 := hb1.hk.size
      exact Below.heap_setCell V ⟨g, 14, none⟩ _ k (by show k ≠ g; omega)) hb1.hk.size
    go_wp2
    go_ret
    refine ⟨.slice A5 bn.length c5, ?_, ?_, hownS, hbS.hk⟩
    all_goals rw [show res = (c1, f1) by rw [← hres.out]; unfold besUp; rw [← hf1.out, ← HC1.out, ← hf0.out, HC0.out]]
    all_goals first | rfl | exact hbS.hg
  · as_aux_lemma =>
    have kc3 := hb1.cR 3 (u := .slice AB bn.length cB) rfl
    have hsg := hq.S _ hb1.hk
    have hok := hq.ok
    rw [hok] at hsg
    have hnil : OwnB W W.heap.size 5 (.slice none 0 0) [] := ownB_nil _ _ _
    obtain ⟨i0, hif, hz0, hz1, hz2⟩ := info_parts infoU8
    have hlz : ([] : List UInt8).length + (Lib.bytesOf bn).length ≤ 1000000000 := by rw [hok]; simp; have := hq.lenB; omega
    go_wp2_with (at_builtin; refine wpList_appB rfl _ _ 24 24 rfl 5 i0 Tryd.underlying24 hif hz0 hz1 hz2 W.heap.size (.slice none 0 0) [] rfl hnil _ (Lib.bytesOf bn) rfl (by rw [hok]; exact hsg) hlz (Nat.le_refl _) ?_)
    intro v4 V hown hgrow
    try rw [List.nil_append] at hown
    obtain ⟨A5, c5, hv5, hc5, -⟩ := hown.form
    rw [hok] at hv5 hc5
    subst hv5
    have hbV := hb1.grownV hgrow
    have kc14 := hbV.c 14 (u := .slice none 0 0) rfl
    have kf14 := hbV.fz 14
    have hbS := hbV.set 14 (.slice A5 bn.length c5)
    have cFS := hbS.cF
    have ckV := hbV.c 0 (u := .int .i64 19) (by show some (Value.int .i64 c1.kind) = _; rw [hk1])
    have hownS : OwnB (V.setCell ⟨g, 14, none⟩ (.slice A5 bn.length c5)) w.heap.size 5 (.slice A5 bn.length c5) (Lib.bytesOf bn) := OwnB.le (hown.keep fun k hk => by
      have h1 := (hown.lt k hk).1
      have h2 := hb1.hk.size
      exact Below.heap_setCell V ⟨g, 14, none⟩ _ k (by show k ≠ g; omega)) hb1.hk.size
    go_wp2
    go_ret
    refine ⟨.slice A5 bn.length c5, ?_, ?_, hownS, hbS.hk⟩
    all_goals rw [show res = (c1, f1) by rw [← hres.out]; unfold besUp; rw [← hf1.out, ← HC1.out, ← hf0.out, HC0.out]]
    all_goals first | rfl | exact hbS.hg
set_option maxHeartbeats 8000000 in
set_option maxRecDepth 10000 in
theorem beside_20 (c : CallP) (g : Nat) (m t : ByteArray) (AH : Option Addr) (cH : Nat) (hs : List PairT) (AB : Option Addr) (cB : Nat) (bn : List Int) (A : Option Addr) (cA : Nat) (l : List PairT) (w : World) (hkind : c.kind = 20)
    (hg : w.heap[g]? = some (.cells (callV c (.slice none 0 0)) 26 (0, 0))) (hl : l.length ≤ 32) (hls : ∀ q ∈ l, q.f1.size ≤ 1000000) (hC : Kd.C Pr.k41 w A l.length l) (hcA : l.length ≤ cA) (hA : ∀ ad, A = some ad → 0 < l.length → ad.block ≠ g ∧ ad.block < w.heap.size)
    (hq : ReqIn w g AH cH hs AB cB bn) (hhs : ∀ q ∈ hs, q.f1.size ≤ 1000000) :
    Calls Tryd.prog 21 #[.pointer (some ⟨g, 0, none⟩), .agg #[.string m, .string t, .slice AH hs.length cH, .slice AB bn.length cB], .slice A l.length cA] w (BesQ w g [] (besUp c l)) := by
  have hb0 := Bes.start (rq := #[.string m, .string t, .slice AH hs.length cH, .slice AB bn.length cB]) hg hl hC hcA hA
  have hlt := hb0.lt
  clear hC hcA hA
  have hst := store_fn (P := Tryd.prog) (w.heap.size + 1 + 1 + 1) (textFn (w.heap.size + 1)) rfl
  unfold textFn at hb0 hst
  generalize hres : besUp c l = res
  replace hres := Lib.hid hres
  go_enter Tryd.func21, Tryd.ntmps21
  go_upto_region 5 with (fail)
  generalize (((w.alloc (.cells #[.string m, .string t, .slice AH hs.length cH, .slice AB bn.length cB] 31)).alloc (.cells #[.slice A l.length cA] 29)).alloc (.cells #[.bool true] 4)).alloc (.cells #[.func (.func 31) #[] #[.pointer (some ⟨w.heap.size + 1, 0, none⟩)]] 73) = W0 at hb0 ⊢
  clear hst
  obtain ⟨c0, hc0⟩ : ∃ c0, c0 = c := ⟨c, rfl⟩
  rw [← hc0] at hb0
  have hk0 : c0.kind = 20 := by rw [hc0]; exact hkind
  have HC0 := Lib.hid hc0
  clear hc0 hkind hg
  generalize hf0 : true = f0 at hb0
  replace hf0 := Lib.hid hf0
  have ck := hb0.c 0 (u := .int .i64 20) (by show some (Value.int .i64 c0.kind) = _; rw [hk0])
  go_wp2_with fail
  refine (id_any (⟨#[117, 112, 108, 111, 97, 100, 73, 100]⟩ : ByteArray) g 4 _ _ _ _ f0 l _ hb0.hg (by show 4 < 15; decide) _ hb0.hP hb0.hX hb0.hF).mono ?_
  rintro e W1 ⟨rfl, h1, h2, h3⟩
  have hb1 := hb0.step (cs' := callV { c0 with upload := (findP (⟨#[117, 112, 108, 111, 97, 100, 73, 100]⟩ : ByteArray) l).1 } (.slice none 0 0)) h1 h2 h3
  generalize hc1 : { c0 with upload := (findP (⟨#[117, 112, 108, 111, 97, 100, 73, 100]⟩ : ByteArray) l).1 } = c1 at hb1
  have hk1 : c1.kind = 20 := by rw [← hc1]; exact hk0
  have HC1 := Lib.hid hc1
  clear hc1 hk0
  generalize hf1 : idOk f0 (findP (⟨#[117, 112, 108, 111, 97, 100, 73, 100]⟩ : ByteArray) l) = f1 at hb1
  replace hf1 := Lib.hid hf1
  clear hb0 ck
  have ck := hb1.c 0 (u := .int .i64 20) (by show some (Value.int .i64 c1.kind) = _; rw [hk1])
  clear h1 h2 h3
  have r0 := hb1.cR 0 (u := .string m) rfl
  have r1 := hb1.cR 1 (u := .string t) rfl
  have r2 := hb1.cR 2 (u := .slice AH hs.length cH) rfl
  have r3 := hb1.cR 3 (u := .slice AB bn.length cB) rfl
  go_wp2_with fail
  refine (get_any m t AH cH hs AB cB bn (⟨#[114, 97, 110, 103, 101]⟩ : ByteArray) _ (hq.H _ hb1.hk) hq.capH (hq.B _ hb1.hk) hq.capB hq.lenH).mono ?_
  have hrs := findP_size (⟨#[114, 97, 110, 103, 101]⟩ : ByteArray) 1000000 hs hhs
  generalize hr : findP (⟨#[114, 97, 110, 103, 101]⟩ : ByteArray) hs = r at hrs ⊢
  replace hr := Lib.hid hr
  obtain ⟨rs, is⟩ := r
  simp only at hrs ⊢
  rintro e W ⟨rfl, hbw⟩
  replace hb1 := hb1.below hbw
  clear hbw ck r0 r1 r2 r3
  have ck := hb1.c 0 (u := .int .i64 20) (by show some (Value.int .i64 c1.kind) = _; rw [hk1])
  have cF := hb1.cF
  cases is
  · as_aux_lemma =>
    go_wp2
    go_ret
    refine ⟨.slice none 0 0, ?_, ?_, ownB_nil _ _ _, hb1.hk⟩
    all_goals rw [show res = (c1, f1) by rw [← hres.out]; unfold besUp; rw [← hf1.out, ← HC1.out, ← hf0.out, HC0.out]]
    all_goals first | rfl | exact hb1.hg
  · as_aux_lemma =>
    go_wp2
    go_ret
    refine ⟨.slice none 0 0, ?_, ?_, ownB_nil _ _ _, hb1.hk⟩
    all_goals rw [show res = (c1, f1) by rw [← hres.out]; unfold besUp; rw [← hf1.out, ← HC1.out, ← hf0.out, HC0.out]]
    all_goals first | rfl | exact hb1.hg
end Go.Proofs.YtehibiplodjofaaDoor
end
section
/- route.beside at some kinds (printed by wip/gen_rq29.py). -/
namespace Go.Proofs.YtehibiplodjofaaDoor
open Go.RowKit Go.Proofs.YtehibiplodjofaaDoorW.PrintWords Go.Proofs.YtehibiplodjofaaDoorW.PrintLast Go.Proofs.YtehibiplodjofaaDoorW.PrintMore
set_option linter.unusedVariables false
set_option linter.unusedSimpArgs false
set_option maxHeartbeats 8000000 in
set_option maxRecDepth 10000 in
theorem beside_1 (c : CallP) (g : Nat) (m t : ByteArray) (AH : Option Addr) (cH : Nat) (hs : List PairT) (AB : Option Addr) (cB : Nat) (bn : List Int) (A : Option Addr) (cA : Nat) (l : List PairT) (w : World) (hkind : c.kind = 1)
    (hg : w.heap[g]? = some (.cells (callV c (.slice none 0 0)) 26 (0, 0))) (hl : l.length ≤ 32) (hls : ∀ q ∈ l, q.f1.size ≤ 1000000) (hC : Kd.C Pr.k41 w A l.length l) (hcA : l.length ≤ cA) (hA : ∀ ad, A = some ad → 0 < l.length → ad.block ≠ g ∧ ad.block < w.heap.size)
    (hq : ReqIn w g AH cH hs AB cB bn) (hhs : ∀ q ∈ hs, q.f1.size ≤ 1000000) :
    Calls Tryd.prog 21 #[.pointer (some ⟨g, 0, none⟩), .agg #[.string m, .string t, .slice AH hs.length cH, .slice AB bn.length cB], .slice A l.length cA] w (BesQ w g [] ((c, true))) := by
  have hb0 := Bes.start (rq := #[.string m, .string t, .slice AH hs.length cH, .slice AB bn.length cB]) hg hl hC hcA hA
  have hlt := hb0.lt
  clear hC hcA hA
  have hst := store_fn (P := Tryd.prog) (w.heap.size + 1 + 1 + 1) (textFn (w.heap.size + 1)) rfl
  unfold textFn at hb0 hst
  generalize hres : (c, true) = res
  replace hres := Lib.hid hres
  go_enter Tryd.func21, Tryd.ntmps21
  go_upto_region 5 with (fail)
  generalize (((w.alloc (.cells #[.string m, .string t, .slice AH hs.length cH, .slice AB bn.length cB] 31)).alloc (.cells #[.slice A l.length cA] 29)).alloc (.cells #[.bool true] 4)).alloc (.cells #[.func (.func 31) #[] #[.pointer (some ⟨w.heap.size + 1, 0, none⟩)]] 73) = W0 at hb0 ⊢
  clear hst
  obtain ⟨c0, hc0⟩ : ∃ c0, c0 = c := ⟨c, rfl⟩
  rw [← hc0] at hb0
  have hk0 : c0.kind = 1 := by rw [hc0]; exact hkind
  have HC0 := Lib.hid hc0
  clear hc0 hkind hg
  generalize hf0 : true = f0 at hb0
  replace hf0 := Lib.hid hf0
  have ck := hb0.c 0 (u := .int .i64 1) (by show some (Value.int .i64 c0.kind) = _; rw [hk0])
  have r0 := hb0.cR 0 (u := .string m) rfl
  have r1 := hb0.cR 1 (u := .string t) rfl
  have r2 := hb0.cR 2 (u := .slice AH hs.length cH) rfl
  have r3 := hb0.cR 3 (u := .slice AB bn.length cB) rfl
  go_wp2_with fail
  refine (get_any m t AH cH hs AB cB bn (⟨#[114, 97, 110, 103, 101]⟩ : ByteArray) _ (hq.H _ hb0.hk) hq.capH (hq.B _ hb0.hk) hq.capB hq.lenH).mono ?_
  have hrs := findP_size (⟨#[114, 97, 110, 103, 101]⟩ : ByteArray) 1000000 hs hhs
  generalize hr : findP (⟨#[114, 97, 110, 103, 101]⟩ : ByteArray) hs = r at hrs ⊢
  replace hr := Lib.hid hr
  obtain ⟨rs, is⟩ := r
  simp only at hrs ⊢
  rintro e W ⟨rfl, hbw⟩
  replace hb0 := hb0.below hbw
  clear hbw ck r0 r1 r2 r3
  have ck := hb0.c 0 (u := .int .i64 1) (by show some (Value.int .i64 c0.kind) = _; rw [hk0])
  have cF := hb0.cF
  cases is
  · as_aux_lemma =>
    go_wp2
    go_ret
    refine ⟨.slice none 0 0, ?_, ?_, ownB_nil _ _ _, hb0.hk⟩
    all_goals rw [show res = (c0, f0) by rw [← hres.out]; rw [← hf0.out, HC0.out]]
    all_goals first | rfl | exact hb0.hg
  · as_aux_lemma =>
    go_wp2
    go_ret
    refine ⟨.slice none 0 0, ?_, ?_, ownB_nil _ _ _, hb0.hk⟩
    all_goals rw [show res = (c0, f0) by rw [← hres.out]; rw [← hf0.out, HC0.out]]
    all_goals first | rfl | exact hb0.hg
set_option maxHeartbeats 8000000 in
set_option maxRecDepth 10000 in
theorem beside_2 (c : CallP) (g : Nat) (m t : ByteArray) (AH : Option Addr) (cH : Nat) (hs : List PairT) (AB : Option Addr) (cB : Nat) (bn : List Int) (A : Option Addr) (cA : Nat) (l : List PairT) (w : World) (hkind : c.kind = 2)
    (hg : w.heap[g]? = some (.cells (callV c (.slice none 0 0)) 26 (0, 0))) (hl : l.length ≤ 32) (hls : ∀ q ∈ l, q.f1.size ≤ 1000000) (hC : Kd.C Pr.k41 w A l.length l) (hcA : l.length ≤ cA) (hA : ∀ ad, A = some ad → 0 < l.length → ad.block ≠ g ∧ ad.block < w.heap.size)
    (hq : ReqIn w g AH cH hs AB cB bn) (hhs : ∀ q ∈ hs, q.f1.size ≤ 1000000) :
    Calls Tryd.prog 21 #[.pointer (some ⟨g, 0, none⟩), .agg #[.string m, .string t, .slice AH hs.length cH, .slice AB bn.length cB], .slice A l.length cA] w (BesQ w g [] ((c, true))) := by
  have hb0 := Bes.start (rq := #[.string m, .string t, .slice AH hs.length cH, .slice AB bn.length cB]) hg hl hC hcA hA
  have hlt := hb0.lt
  clear hC hcA hA
  have hst := store_fn (P := Tryd.prog) (w.heap.size + 1 + 1 + 1) (textFn (w.heap.size + 1)) rfl
  unfold textFn at hb0 hst
  generalize hres : (c, true) = res
  replace hres := Lib.hid hres
  go_enter Tryd.func21, Tryd.ntmps21
  go_upto_region 5 with (fail)
  generalize (((w.alloc (.cells #[.string m, .string t, .slice AH hs.length cH, .slice AB bn.length cB] 31)).alloc (.cells #[.slice A l.length cA] 29)).alloc (.cells #[.bool true] 4)).alloc (.cells #[.func (.func 31) #[] #[.pointer (some ⟨w.heap.size + 1, 0, none⟩)]] 73) = W0 at hb0 ⊢
  clear hst
  obtain ⟨c0, hc0⟩ : ∃ c0, c0 = c := ⟨c, rfl⟩
  rw [← hc0] at hb0
  have hk0 : c0.kind = 2 := by rw [hc0]; exact hkind
  have HC0 := Lib.hid hc0
  clear hc0 hkind hg
  generalize hf0 : true = f0 at hb0
  replace hf0 := Lib.hid hf0
  have ck := hb0.c 0 (u := .int .i64 2) (by show some (Value.int .i64 c0.kind) = _; rw [hk0])
  have r0 := hb0.cR 0 (u := .string m) rfl
  have r1 := hb0.cR 1 (u := .string t) rfl
  have r2 := hb0.cR 2 (u := .slice AH hs.length cH) rfl
  have r3 := hb0.cR 3 (u := .slice AB bn.length cB) rfl
  go_wp2_with fail
  refine (get_any m t AH cH hs AB cB bn (⟨#[114, 97, 110, 103, 101]⟩ : ByteArray) _ (hq.H _ hb0.hk) hq.capH (hq.B _ hb0.hk) hq.capB hq.lenH).mono ?_
  have hrs := findP_size (⟨#[114, 97, 110, 103, 101]⟩ : ByteArray) 1000000 hs hhs
  generalize hr : findP (⟨#[114, 97, 110, 103, 101]⟩ : ByteArray) hs = r at hrs ⊢
  replace hr := Lib.hid hr
  obtain ⟨rs, is⟩ := r
  simp only at hrs ⊢
  rintro e W ⟨rfl, hbw⟩
  replace hb0 := hb0.below hbw
  clear hbw ck r0 r1 r2 r3
  have ck := hb0.c 0 (u := .int .i64 2) (by show some (Value.int .i64 c0.kind) = _; rw [hk0])
  have cF := hb0.cF
  cases is
  · as_aux_lemma =>
    go_wp2
    go_ret
    refine ⟨.slice none 0 0, ?_, ?_, ownB_nil _ _ _, hb0.hk⟩
    all_goals rw [show res = (c0, f0) by rw [← hres.out]; rw [← hf0.out, HC0.out]]
    all_goals first | rfl | exact hb0.hg
  · as_aux_lemma =>
    go_wp2
    go_ret
    refine ⟨.slice none 0 0, ?_, ?_, ownB_nil _ _ _, hb0.hk⟩
    all_goals rw [show res = (c0, f0) by rw [← hres.out]; rw [← hf0.out, HC0.out]]
    all_goals first | rfl | exact hb0.hg
set_option maxHeartbeats 8000000 in
set_option maxRecDepth 10000 in
theorem beside_3 (c : CallP) (g : Nat) (m t : ByteArray) (AH : Option Addr) (cH : Nat) (hs : List PairT) (AB : Option Addr) (cB : Nat) (bn : List Int) (A : Option Addr) (cA : Nat) (l : List PairT) (w : World) (hkind : c.kind = 3)
    (hg : w.heap[g]? = some (.cells (callV c (.slice none 0 0)) 26 (0, 0))) (hl : l.length ≤ 32) (hls : ∀ q ∈ l, q.f1.size ≤ 1000000) (hC : Kd.C Pr.k41 w A l.length l) (hcA : l.length ≤ cA) (hA : ∀ ad, A = some ad → 0 < l.length → ad.block ≠ g ∧ ad.block < w.heap.size)
    (hq : ReqIn w g AH cH hs AB cB bn) (hhs : ∀ q ∈ hs, q.f1.size ≤ 1000000) :
    Calls Tryd.prog 21 #[.pointer (some ⟨g, 0, none⟩), .agg #[.string m, .string t, .slice AH hs.length cH, .slice AB bn.length cB], .slice A l.length cA] w (BesQ w g [] ((c, true))) := by
  have hb0 := Bes.start (rq := #[.string m, .string t, .slice AH hs.length cH, .slice AB bn.length cB]) hg hl hC hcA hA
  have hlt := hb0.lt
  clear hC hcA hA
  have hst := store_fn (P := Tryd.prog) (w.heap.size + 1 + 1 + 1) (textFn (w.heap.size + 1)) rfl
  unfold textFn at hb0 hst
  generalize hres : (c, true) = res
  replace hres := Lib.hid hres
  go_enter Tryd.func21, Tryd.ntmps21
  go_upto_region 5 with (fail)
  generalize (((w.alloc (.cells #[.string m, .string t, .slice AH hs.length cH, .slice AB bn.length cB] 31)).alloc (.cells #[.slice A l.length cA] 29)).alloc (.cells #[.bool true] 4)).alloc (.cells #[.func (.func 31) #[] #[.pointer (some ⟨w.heap.size + 1, 0, none⟩)]] 73) = W0 at hb0 ⊢
  clear hst
  obtain ⟨c0, hc0⟩ : ∃ c0, c0 = c := ⟨c, rfl⟩
  rw [← hc0] at hb0
  have hk0 : c0.kind = 3 := by rw [hc0]; exact hkind
  have HC0 := Lib.hid hc0
  clear hc0 hkind hg
  generalize hf0 : true = f0 at hb0
  replace hf0 := Lib.hid hf0
  have ck := hb0.c 0 (u := .int .i64 3) (by show some (Value.int .i64 c0.kind) = _; rw [hk0])
  have r0 := hb0.cR 0 (u := .string m) rfl
  have r1 := hb0.cR 1 (u := .string t) rfl
  have r2 := hb0.cR 2 (u := .slice AH hs.length cH) rfl
  have r3 := hb0.cR 3 (u := .slice AB bn.length cB) rfl
  go_wp2_with fail
  refine (get_any m t AH cH hs AB cB bn (⟨#[114, 97, 110, 103, 101]⟩ : ByteArray) _ (hq.H _ hb0.hk) hq.capH (hq.B _ hb0.hk) hq.capB hq.lenH).mono ?_
  have hrs := findP_size (⟨#[114, 97, 110, 103, 101]⟩ : ByteArray) 1000000 hs hhs
  generalize hr : findP (⟨#[114, 97, 110, 103, 101]⟩ : ByteArray) hs = r at hrs ⊢
  replace hr := Lib.hid hr
  obtain ⟨rs, is⟩ := r
  simp only at hrs ⊢
  rintro e W ⟨rfl, hbw⟩
  replace hb0 := hb0.below hbw
  clear hbw ck r0 r1 r2 r3
  have ck := hb0.c 0 (u := .int .i64 3) (by show some (Value.int .i64 c0.kind) = _; rw [hk0])
  have cF := hb0.cF
  cases is
  · as_aux_lemma =>
    go_wp2
    go_ret
    refine ⟨.slice none 0 0, ?_, ?_, ownB_nil _ _ _, hb0.hk⟩
    all_goals rw [show res = (c0, f0) by rw [← hres.out]; rw [← hf0.out, HC0.out]]
    all_goals first | rfl | exact hb0.hg
  · as_aux_lemma =>
    go_wp2
    go_ret
    refine ⟨.slice none 0 0, ?_, ?_, ownB_nil _ _ _, hb0.hk⟩
    all_goals rw [show res = (c0, f0) by rw [← hres.out]; rw [← hf0.out, HC0.out]]
    all_goals first | rfl | exact hb0.hg
set_option maxHeartbeats 8000000 in
set_option maxRecDepth 10000 in
theorem beside_4 (c : CallP) (g : Nat) (m t : ByteArray) (AH : Option Addr) (cH : Nat) (hs : List PairT) (AB : Option Addr) (cB : Nat) (bn : List Int) (A : Option Addr) (cA : Nat) (l : List PairT) (w : World) (hkind : c.kind = 4)
    (hg : w.heap[g]? = some (.cells (callV c (.slice none 0 0)) 26 (0, 0))) (hl : l.length ≤ 32) (hls : ∀ q ∈ l, q.f1.size ≤ 1000000) (hC : Kd.C Pr.k41 w A l.length l) (hcA : l.length ≤ cA) (hA : ∀ ad, A = some ad → 0 < l.length → ad.block ≠ g ∧ ad.block < w.heap.size)
    (hq : ReqIn w g AH cH hs AB cB bn) (hhs : ∀ q ∈ hs, q.f1.size ≤ 1000000) :
    Calls Tryd.prog 21 #[.pointer (some ⟨g, 0, none⟩), .agg #[.string m, .string t, .slice AH hs.length cH, .slice AB bn.length cB], .slice A l.length cA] w (BesQ w g [] ((c, true))) := by
  have hb0 := Bes.start (rq := #[.string m, .string t, .slice AH hs.length cH, .slice AB bn.length cB]) hg hl hC hcA hA
  have hlt := hb0.lt
  clear hC hcA hA
  have hst := store_fn (P := Tryd.prog) (w.heap.size + 1 + 1 + 1) (textFn (w.heap.size + 1)) rfl
  unfold textFn at hb0 hst
  generalize hres : (c, true) = res
  replace hres := Lib.hid hres
  go_enter Tryd.func21, Tryd.ntmps21
  go_upto_region 5 with (fail)
  generalize (((w.alloc (.cells #[.string m, .string t, .slice AH hs.length cH, .slice AB bn.length cB] 31)).alloc (.cells #[.slice A l.length cA] 29)).alloc (.cells #[.bool true] 4)).alloc (.cells #[.func (.func 31) #[] #[.pointer (some ⟨w.heap.size + 1, 0, none⟩)]] 73) = W0 at hb0 ⊢
  clear hst
  obtain ⟨c0, hc0⟩ : ∃ c0, c0 = c := ⟨c, rfl⟩
  rw [← hc0] at hb0
  have hk0 : c0.kind = 4 := by rw [hc0]; exact hkind
  have HC0 := Lib.hid hc0
  clear hc0 hkind hg
  generalize hf0 : true = f0 at hb0
  replace hf0 := Lib.hid hf0
  have ck := hb0.c 0 (u := .int .i64 4) (by show some (Value.int .i64 c0.kind) = _; rw [hk0])
  have r0 := hb0.cR 0 (u := .string m) rfl
  have r1 := hb0.cR 1 (u := .string t) rfl
  have r2 := hb0.cR 2 (u := .slice AH hs.length cH) rfl
  have r3 := hb0.cR 3 (u := .slice AB bn.length cB) rfl
  go_wp2_with fail
  refine (get_any m t AH cH hs AB cB bn (⟨#[114, 97, 110, 103, 101]⟩ : ByteArray) _ (hq.H _ hb0.hk) hq.capH (hq.B _ hb0.hk) hq.capB hq.lenH).mono ?_
  have hrs := findP_size (⟨#[114, 97, 110, 103, 101]⟩ : ByteArray) 1000000 hs hhs
  generalize hr : findP (⟨#[114, 97, 110, 103, 101]⟩ : ByteArray) hs = r at hrs ⊢
  replace hr := Lib.hid hr
  obtain ⟨rs, is⟩ := r
  simp only at hrs ⊢
  rintro e W ⟨rfl, hbw⟩
  replace hb0 := hb0.below hbw
  clear hbw ck r0 r1 r2 r3
  have ck := hb0.c 0 (u := .int .i64 4) (by show some (Value.int .i64 c0.kind) = _; rw [hk0])
  have cF := hb0.cF
  cases is
  · as_aux_lemma =>
    go_wp2
    go_ret
    refine ⟨.slice none 0 0, ?_, ?_, ownB_nil _ _ _, hb0.hk⟩
    all_goals rw [show res = (c0, f0) by rw [← hres.out]; rw [← hf0.out, HC0.out]]
    all_goals first | rfl | exact hb0.hg
  · as_aux_lemma =>
    go_wp2
    go_ret
    refine ⟨.slice none 0 0, ?_, ?_, ownB_nil _ _ _, hb0.hk⟩
    all_goals rw [show res = (c0, f0) by rw [← hres.out]; rw [← hf0.out, HC0.out]]
    all_goals first | rfl | exact hb0.hg
set_option maxHeartbeats 8000000 in
set_option maxRecDepth 10000 in
theorem beside_7 (c : CallP) (g : Nat) (m t : ByteArray) (AH : Option Addr) (cH : Nat) (hs : List PairT) (AB : Option Addr) (cB : Nat) (bn : List Int) (A : Option Addr) (cA : Nat) (l : List PairT) (w : World) (hkind : c.kind = 7)
    (hg : w.heap[g]? = some (.cells (callV c (.slice none 0 0)) 26 (0, 0))) (hl : l.length ≤ 32) (hls : ∀ q ∈ l, q.f1.size ≤ 1000000) (hC : Kd.C Pr.k41 w A l.length l) (hcA : l.length ≤ cA) (hA : ∀ ad, A = some ad → 0 < l.length → ad.block ≠ g ∧ ad.block < w.heap.size)
    (hq : ReqIn w g AH cH hs AB cB bn) (hhs : ∀ q ∈ hs, q.f1.size ≤ 1000000) :
    Calls Tryd.prog 21 #[.pointer (some ⟨g, 0, none⟩), .agg #[.string m, .string t, .slice AH hs.length cH, .slice AB bn.length cB], .slice A l.length cA] w (BesQ w g [] ((c, true))) := by
  have hb0 := Bes.start (rq := #[.string m, .string t, .slice AH hs.length cH, .slice AB bn.length cB]) hg hl hC hcA hA
  have hlt := hb0.lt
  clear hC hcA hA
  have hst := store_fn (P := Tryd.prog) (w.heap.size + 1 + 1 + 1) (textFn (w.heap.size + 1)) rfl
  unfold textFn at hb0 hst
  generalize hres : (c, true) = res
  replace hres := Lib.hid hres
  go_enter Tryd.func21, Tryd.ntmps21
  go_upto_region 5 with (fail)
  generalize (((w.alloc (.cells #[.string m, .string t, .slice AH hs.length cH, .slice AB bn.length cB] 31)).alloc (.cells #[.slice A l.length cA] 29)).alloc (.cells #[.bool true] 4)).alloc (.cells #[.func (.func 31) #[] #[.pointer (some ⟨w.heap.size + 1, 0, none⟩)]] 73) = W0 at hb0 ⊢
  clear hst
  obtain ⟨c0, hc0⟩ : ∃ c0, c0 = c := ⟨c, rfl⟩
  rw [← hc0] at hb0
  have hk0 : c0.kind = 7 := by rw [hc0]; exact hkind
  have HC0 := Lib.hid hc0
  clear hc0 hkind hg
  generalize hf0 : true = f0 at hb0
  replace hf0 := Lib.hid hf0
  have ck := hb0.c 0 (u := .int .i64 7) (by show some (Value.int .i64 c0.kind) = _; rw [hk0])
  have r0 := hb0.cR 0 (u := .string m) rfl
  have r1 := hb0.cR 1 (u := .string t) rfl
  have r2 := hb0.cR 2 (u := .slice AH hs.length cH) rfl
  have r3 := hb0.cR 3 (u := .slice AB bn.length cB) rfl
  go_wp2_with fail
  refine (get_any m t AH cH hs AB cB bn (⟨#[114, 97, 110, 103, 101]⟩ : ByteArray) _ (hq.H _ hb0.hk) hq.capH (hq.B _ hb0.hk) hq.capB hq.lenH).mono ?_
  have hrs := findP_size (⟨#[114, 97, 110, 103, 101]⟩ : ByteArray) 1000000 hs hhs
  generalize hr : findP (⟨#[114, 97, 110, 103, 101]⟩ : ByteArray) hs = r at hrs ⊢
  replace hr := Lib.hid hr
  obtain ⟨rs, is⟩ := r
  simp only at hrs ⊢
  rintro e W ⟨rfl, hbw⟩
  replace hb0 := hb0.below hbw
  clear hbw ck r0 r1 r2 r3
  have ck := hb0.c 0 (u := .int .i64 7) (by show some (Value.int .i64 c0.kind) = _; rw [hk0])
  have cF := hb0.cF
  cases is
  · as_aux_lemma =>
    go_wp2
    go_ret
    refine ⟨.slice none 0 0, ?_, ?_, ownB_nil _ _ _, hb0.hk⟩
    all_goals rw [show res = (c0, f0) by rw [← hres.out]; rw [← hf0.out, HC0.out]]
    all_goals first | rfl | exact hb0.hg
  · as_aux_lemma =>
    go_wp2
    go_ret
    refine ⟨.slice none 0 0, ?_, ?_, ownB_nil _ _ _, hb0.hk⟩
    all_goals rw [show res = (c0, f0) by rw [← hres.out]; rw [← hf0.out, HC0.out]]
    all_goals first | rfl | exact hb0.hg
set_option maxHeartbeats 8000000 in
set_option maxRecDepth 10000 in
theorem beside_8 (c : CallP) (g : Nat) (m t : ByteArray) (AH : Option Addr) (cH : Nat) (hs : List PairT) (AB : Option Addr) (cB : Nat) (bn : List Int) (A : Option Addr) (cA : Nat) (l : List PairT) (w : World) (hkind : c.kind = 8)
    (hg : w.heap[g]? = some (.cells (callV c (.slice none 0 0)) 26 (0, 0))) (hl : l.length ≤ 32) (hls : ∀ q ∈ l, q.f1.size ≤ 1000000) (hC : Kd.C Pr.k41 w A l.length l) (hcA : l.length ≤ cA) (hA : ∀ ad, A = some ad → 0 < l.length → ad.block ≠ g ∧ ad.block < w.heap.size)
    (hq : ReqIn w g AH cH hs AB cB bn) (hhs : ∀ q ∈ hs, q.f1.size ≤ 1000000) :
    Calls Tryd.prog 21 #[.pointer (some ⟨g, 0, none⟩), .agg #[.string m, .string t, .slice AH hs.length cH, .slice AB bn.length cB], .slice A l.length cA] w (BesQ w g (Lib.bytesOf bn) ((c, true))) := by
  have hb0 := Bes.start (rq := #[.string m, .string t, .slice AH hs.length cH, .slice AB bn.length cB]) hg hl hC hcA hA
  have hlt := hb0.lt
  clear hC hcA hA
  have hst := store_fn (P := Tryd.prog) (w.heap.size + 1 + 1 + 1) (textFn (w.heap.size + 1)) rfl
  unfold textFn at hb0 hst
  generalize hres : (c, true) = res
  replace hres := Lib.hid hres
  go_enter Tryd.func21, Tryd.ntmps21
  go_upto_region 5 with (fail)
  generalize (((w.alloc (.cells #[.string m, .string t, .slice AH hs.length cH, .slice AB bn.length cB] 31)).alloc (.cells #[.slice A l.length cA] 29)).alloc (.cells #[.bool true] 4)).alloc (.cells #[.func (.func 31) #[] #[.pointer (some ⟨w.heap.size + 1, 0, none⟩)]] 73) = W0 at hb0 ⊢
  clear hst
  obtain ⟨c0, hc0⟩ : ∃ c0, c0 = c := ⟨c, rfl⟩
  rw [← hc0] at hb0
  have hk0 : c0.kind = 8 := by rw [hc0]; exact hkind
  have HC0 := Lib.hid hc0
  clear hc0 hkind hg
  generalize hf0 : true = f0 at hb0
  replace hf0 := Lib.hid hf0
  have ck := hb0.c 0 (u := .int .i64 8) (by show some (Value.int .i64 c0.kind) = _; rw [hk0])
  have r0 := hb0.cR 0 (u := .string m) rfl
  have r1 := hb0.cR 1 (u := .string t) rfl
  have r2 := hb0.cR 2 (u := .slice AH hs.length cH) rfl
  have r3 := hb0.cR 3 (u := .slice AB bn.length cB) rfl
  go_wp2_with fail
  refine (get_any m t AH cH hs AB cB bn (⟨#[114, 97, 110, 103, 101]⟩ : ByteArray) _ (hq.H _ hb0.hk) hq.capH (hq.B _ hb0.hk) hq.capB hq.lenH).mono ?_
  have hrs := findP_size (⟨#[114, 97, 110, 103, 101]⟩ : ByteArray) 1000000 hs hhs
  generalize hr : findP (⟨#[114, 97, 110, 103, 101]⟩ : ByteArray) hs = r at hrs ⊢
  replace hr := Lib.hid hr
  obtain ⟨rs, is⟩ := r
  simp only at hrs ⊢
  rintro e W ⟨rfl, hbw⟩
  replace hb0 := hb0.below hbw
  clear hbw ck r0 r1 r2 r3
  have ck := hb0.c 0 (u := .int .i64 8) (by show some (Value.int .i64 c0.kind) = _; rw [hk0])
  have cF := hb0.cF
  cases is
  · as_aux_lemma =>
    have kc3 := hb0.cR 3 (u := .slice AB bn.length cB) rfl
    have hsg := hq.S _ hb0.hk
    have hok := hq.ok
    rw [hok] at hsg
    have hnil : OwnB W W.heap.size 5 (.slice none 0 0) [] := ownB_nil _ _ _
    obtain ⟨i0, hif, hz0, hz1, hz2⟩ := info_parts infoU8
    have hlz : ([] : List UInt8).length + (Lib.bytesOf bn).length ≤ 1000000000 := by rw [hok]; simp; have := hq.lenB; omega
    go_wp2_with (at_builtin; refine wpList_appB rfl _ _ 24 24 rfl 5 i0 Tryd.underlying24 hif hz0 hz1 hz2 W.heap.size (.slice none 0 0) [] rfl hnil _ (Lib.bytesOf bn) rfl (by rw [hok]; exact hsg) hlz (Nat.le_refl _) ?_)
    intro v4 V hown hgrow
    try rw [List.nil_append] at hown
    obtain ⟨A5, c5, hv5, hc5, -⟩ := hown.form
    rw [hok] at hv5 hc5
    subst hv5
    have hbV := hb0.grownV hgrow
    have kc14 := hbV.c 14 (u := .slice none 0 0) rfl
    have kf14 := hbV.fz 14
    have hbS := hbV.set 14 (.slice A5 bn.length c5)
    have cFS := hbS.cF
    have ckV := hbV.c 0 (u := .int .i64 8) (by show some (Value.int .i64 c0.kind) = _; rw [hk0])
    have hownS : OwnB (V.setCell ⟨g, 14, none⟩ (.slice A5 bn.length c5)) w.heap.size 5 (.slice A5 bn.length c5) (Lib.bytesOf bn) := OwnB.le (hown.keep fun k hk => by
      have h1 := (hown.lt k hk).1
      have h2 := hb0.hk.size
      exact Below.heap_setCell V ⟨g, 14, none⟩ _ k (by show k ≠ g; omega)) hb0.hk.size
    go_wp2
    go_ret
    refine ⟨.slice A5 bn.length c5, ?_, ?_, hownS, hbS.hk⟩
    all_goals rw [show res = (c0, f0) by rw [← hres.out]; rw [← hf0.out, HC0.out]]
    all_goals first | rfl | exact hbS.hg
  · as_aux_lemma =>
    have kc3 := hb0.cR 3 (u := .slice AB bn.length cB) rfl
    have hsg := hq.S _ hb0.hk
    have hok := hq.ok
    rw [hok] at hsg
    have hnil : OwnB W W.heap.size 5 (.slice none 0 0) [] := ownB_nil _ _ _
    obtain ⟨i0, hif, hz0, hz1, hz2⟩ := info_parts infoU8
    have hlz : ([] : List UInt8).length + (Lib.bytesOf bn).length ≤ 1000000000 := by rw [hok]; simp; have := hq.lenB; omega
    go_wp2_with (at_builtin; refine wpList_appB rfl _ _ 24 24 rfl 5 i0 Tryd.underlying24 hif hz0 hz1 hz2 W.heap.size (.slice none 0 0) [] rfl hnil _ (Lib.bytesOf bn) rfl (by rw [hok]; exact hsg) hlz (Nat.le_refl _) ?_)
    intro v4 V hown hgrow
    try rw [List.nil_append] at hown
    obtain ⟨A5, c5, hv5, hc5, -⟩ := hown.form
    rw [hok] at hv5 hc5
    subst hv5
    have hbV := hb0.grownV hgrow
    have kc14 := hbV.c 14 (u := .slice none 0 0) rfl
    have kf14 := hbV.fz 14
    have hbS := hbV.set 14 (.slice A5 bn.length c5)
    have cFS := hbS.cF
    have ckV := hbV.c 0 (u := .int .i64 8) (by show some (Value.int .i64 c0.kind) = _; rw [hk0])
    have hownS : OwnB (V.setCell ⟨g, 14, none⟩ (.slice A5 bn.length c5)) w.heap.size 5 (.slice A5 bn.length c5) (Lib.bytesOf bn) := OwnB.le (hown.keep fun k hk => by
      have h1 := (hown.lt k hk).1
      have h2 := hb0.hk.size
      exact Below.heap_setCell V ⟨g, 14, none⟩ _ k (by show k ≠ g; omega)) hb0.hk.size
    go_wp2
    go_ret
    refine ⟨.slice A5 bn.length c5, ?_, ?_, hownS, hbS.hk⟩
    all_goals rw [show res = (c0, f0) by rw [← hres.out]; rw [← hf0.out, HC0.out]]
    all_goals first | rfl | exact hbS.hg
end Go.Proofs.YtehibiplodjofaaDoor
end
section
/- route.beside at some kinds (printed by wip/gen_rq29.py). -/
namespace Go.Proofs.YtehibiplodjofaaDoor
open Go.RowKit Go.Proofs.YtehibiplodjofaaDoorW.PrintWords Go.Proofs.YtehibiplodjofaaDoorW.PrintLast Go.Proofs.YtehibiplodjofaaDoorW.PrintMore
set_option linter.unusedVariables false
set_option linter.unusedSimpArgs false
set_option maxHeartbeats 8000000 in
set_option maxRecDepth 10000 in
theorem beside_9 (c : CallP) (g : Nat) (m t : ByteArray) (AH : Option Addr) (cH : Nat) (hs : List PairT) (AB : Option Addr) (cB : Nat) (bn : List Int) (A : Option Addr) (cA : Nat) (l : List PairT) (w : World) (hkind : c.kind = 9)
    (hg : w.heap[g]? = some (.cells (callV c (.slice none 0 0)) 26 (0, 0))) (hl : l.length ≤ 32) (hls : ∀ q ∈ l, q.f1.size ≤ 1000000) (hC : Kd.C Pr.k41 w A l.length l) (hcA : l.length ≤ cA) (hA : ∀ ad, A = some ad → 0 < l.length → ad.block ≠ g ∧ ad.block < w.heap.size)
    (hq : ReqIn w g AH cH hs AB cB bn) (hhs : ∀ q ∈ hs, q.f1.size ≤ 1000000) :
    Calls Tryd.prog 21 #[.pointer (some ⟨g, 0, none⟩), .agg #[.string m, .string t, .slice AH hs.length cH, .slice AB bn.length cB], .slice A l.length cA] w (BesQ w g [] ((c, true))) := by
  have hb0 := Bes.start (rq := #[.string m, .string t, .slice AH hs.length cH, .slice AB bn.length cB]) hg hl hC hcA hA
  have hlt := hb0.lt
  clear hC hcA hA
  have hst := store_fn (P := Tryd.prog) (w.heap.size + 1 + 1 + 1) (textFn (w.heap.size + 1)) rfl
  unfold textFn at hb0 hst
  generalize hres : (c, true) = res
  replace hres := Lib.hid hres
  go_enter Tryd.func21, Tryd.ntmps21
  go_upto_region 5 with (fail)
  generalize (((w.alloc (.cells #[.string m, .string t, .slice AH hs.length cH, .slice AB bn.length cB] 31)).alloc (.cells #[.slice A l.length cA] 29)).alloc (.cells #[.bool true] 4)).alloc (.cells #[.func (.func 31) #[] #[.pointer (some ⟨w.heap.size + 1, 0, none⟩)]] 73) = W0 at hb0 ⊢
  clear hst
  obtain ⟨c0, hc0⟩ : ∃ c0, c0 = c := ⟨c, rfl⟩
  rw [← hc0] at hb0
  have hk0 : c0.kind = 9 := by rw [hc0]; exact hkind
  have HC0 := Lib.hid hc0
  clear hc0 hkind hg
  generalize hf0 : true = f0 at hb0
  replace hf0 := Lib.hid hf0
  have ck := hb0.c 0 (u := .int .i64 9) (by show some (Value.int .i64 c0.kind) = _; rw [hk0])
  have r0 := hb0.cR 0 (u := .string m) rfl
  have r1 := hb0.cR 1 (u := .string t) rfl
  have r2 := hb0.cR 2 (u := .slice AH hs.length cH) rfl
  have r3 := hb0.cR 3 (u := .slice AB bn.length cB) rfl
  go_wp2_with fail
  refine (get_any m t AH cH hs AB cB bn (⟨#[114, 97, 110, 103, 101]⟩ : ByteArray) _ (hq.H _ hb0.hk) hq.capH (hq.B _ hb0.hk) hq.capB hq.lenH).mono ?_
  have hrs := findP_size (⟨#[114, 97, 110, 103, 101]⟩ : ByteArray) 1000000 hs hhs
  generalize hr : findP (⟨#[114, 97, 110, 103, 101]⟩ : ByteArray) hs = r at hrs ⊢
  replace hr := Lib.hid hr
  obtain ⟨rs, is⟩ := r
  simp only at hrs ⊢
  rintro e W ⟨rfl, hbw⟩
  replace hb0 := hb0.below hbw
  clear hbw ck r0 r1 r2 r3
  have ck := hb0.c 0 (u := .int .i64 9) (by show some (Value.int .i64 c0.kind) = _; rw [hk0])
  have cF := hb0.cF
  cases is
  · as_aux_lemma =>
    go_wp2
    go_ret
    refine ⟨.slice none 0 0, ?_, ?_, ownB_nil _ _ _, hb0.hk⟩
    all_goals rw [show res = (c0, f0) by rw [← hres.out]; rw [← hf0.out, HC0.out]]
    all_goals first | rfl | exact hb0.hg
  · as_aux_lemma =>
    go_wp2
    go_ret
    refine ⟨.slice none 0 0, ?_, ?_, ownB_nil _ _ _, hb0.hk⟩
    all_goals rw [show res = (c0, f0) by rw [← hres.out]; rw [← hf0.out, HC0.out]]
    all_goals first | rfl | exact hb0.hg
set_option maxHeartbeats 8000000 in
set_option maxRecDepth 10000 in
theorem beside_10 (c : CallP) (g : Nat) (m t : ByteArray) (AH : Option Addr) (cH : Nat) (hs : List PairT) (AB : Option Addr) (cB : Nat) (bn : List Int) (A : Option Addr) (cA : Nat) (l : List PairT) (w : World) (hkind : c.kind = 10)
    (hg : w.heap[g]? = some (.cells (callV c (.slice none 0 0)) 26 (0, 0))) (hl : l.length ≤ 32) (hls : ∀ q ∈ l, q.f1.size ≤ 1000000) (hC : Kd.C Pr.k41 w A l.length l) (hcA : l.length ≤ cA) (hA : ∀ ad, A = some ad → 0 < l.length → ad.block ≠ g ∧ ad.block < w.heap.size)
    (hq : ReqIn w g AH cH hs AB cB bn) (hhs : ∀ q ∈ hs, q.f1.size ≤ 1000000) :
    Calls Tryd.prog 21 #[.pointer (some ⟨g, 0, none⟩), .agg #[.string m, .string t, .slice AH hs.length cH, .slice AB bn.length cB], .slice A l.length cA] w (BesQ w g (Lib.bytesOf bn) ((c, true))) := by
  have hb0 := Bes.start (rq := #[.string m, .string t, .slice AH hs.length cH, .slice AB bn.length cB]) hg hl hC hcA hA
  have hlt := hb0.lt
  clear hC hcA hA
  have hst := store_fn (P := Tryd.prog) (w.heap.size + 1 + 1 + 1) (textFn (w.heap.size + 1)) rfl
  unfold textFn at hb0 hst
  generalize hres : (c, true) = res
  replace hres := Lib.hid hres
  go_enter Tryd.func21, Tryd.ntmps21
  go_upto_region 5 with (fail)
  generalize (((w.alloc (.cells #[.string m, .string t, .slice AH hs.length cH, .slice AB bn.length cB] 31)).alloc (.cells #[.slice A l.length cA] 29)).alloc (.cells #[.bool true] 4)).alloc (.cells #[.func (.func 31) #[] #[.pointer (some ⟨w.heap.size + 1, 0, none⟩)]] 73) = W0 at hb0 ⊢
  clear hst
  obtain ⟨c0, hc0⟩ : ∃ c0, c0 = c := ⟨c, rfl⟩
  rw [← hc0] at hb0
  have hk0 : c0.kind = 10 := by rw [hc0]; exact hkind
  have HC0 := Lib.hid hc0
  clear hc0 hkind hg
  generalize hf0 : true = f0 at hb0
  replace hf0 := Lib.hid hf0
  have ck := hb0.c 0 (u := .int .i64 10) (by show some (Value.int .i64 c0.kind) = _; rw [hk0])
  have r0 := hb0.cR 0 (u := .string m) rfl
  have r1 := hb0.cR 1 (u := .string t) rfl
  have r2 := hb0.cR 2 (u := .slice AH hs.length cH) rfl
  have r3 := hb0.cR 3 (u := .slice AB bn.length cB) rfl
  go_wp2_with fail
  refine (get_any m t AH cH hs AB cB bn (⟨#[114, 97, 110, 103, 101]⟩ : ByteArray) _ (hq.H _ hb0.hk) hq.capH (hq.B _ hb0.hk) hq.capB hq.lenH).mono ?_
  have hrs := findP_size (⟨#[114, 97, 110, 103, 101]⟩ : ByteArray) 1000000 hs hhs
  generalize hr : findP (⟨#[114, 97, 110, 103, 101]⟩ : ByteArray) hs = r at hrs ⊢
  replace hr := Lib.hid hr
  obtain ⟨rs, is⟩ := r
  simp only at hrs ⊢
  rintro e W ⟨rfl, hbw⟩
  replace hb0 := hb0.below hbw
  clear hbw ck r0 r1 r2 r3
  have ck := hb0.c 0 (u := .int .i64 10) (by show some (Value.int .i64 c0.kind) = _; rw [hk0])
  have cF := hb0.cF
  cases is
  · as_aux_lemma =>
    have kc3 := hb0.cR 3 (u := .slice AB bn.length cB) rfl
    have hsg := hq.S _ hb0.hk
    have hok := hq.ok
    rw [hok] at hsg
    have hnil : OwnB W W.heap.size 5 (.slice none 0 0) [] := ownB_nil _ _ _
    obtain ⟨i0, hif, hz0, hz1, hz2⟩ := info_parts infoU8
    have hlz : ([] : List UInt8).length + (Lib.bytesOf bn).length ≤ 1000000000 := by rw [hok]; simp; have := hq.lenB; omega
    go_wp2_with (at_builtin; refine wpList_appB rfl _ _ 24 24 rfl 5 i0 Tryd.underlying24 hif hz0 hz1 hz2 W.heap.size (.slice none 0 0) [] rfl hnil _ (Lib.bytesOf bn) rfl (by rw [hok]; exact hsg) hlz (Nat.le_refl _) ?_)
    intro v4 V hown hgrow
    try rw [List.nil_append] at hown
    obtain ⟨A5, c5, hv5, hc5, -⟩ := hown.form
    rw [hok] at hv5 hc5
    subst hv5
    have hbV := hb0.grownV hgrow
    have kc14 := hbV.c 14 (u := .slice none 0 0) rfl
    have kf14 := hbV.fz 14
    have hbS := hbV.set 14 (.slice A5 bn.length c5)
    have cFS := hbS.cF
    have ckV := hbV.c 0 (u := .int .i64 10) (by show some (Value.int .i64 c0.kind) = _; rw [hk0])
    have hownS : OwnB (V.setCell ⟨g, 14, none⟩ (.slice A5 bn.length c5)) w.heap.size 5 (.slice A5 bn.length c5) (Lib.bytesOf bn) := OwnB.le (hown.keep fun k hk => by
      have h1 := (hown.lt k hk).1
      have h2 := hb0.hk.size
      exact Below.heap_setCell V ⟨g, 14, none⟩ _ k (by show k ≠ g; omega)) hb0.hk.size
    go_wp2
    go_ret
    refine ⟨.slice A5 bn.length c5, ?_, ?_, hownS, hbS.hk⟩
    all_goals rw [show res = (c0, f0) by rw [← hres.out]; rw [← hf0.out, HC0.out]]
    all_goals first | rfl | exact hbS.hg
  · as_aux_lemma =>
    have kc3 := hb0.cR 3 (u := .slice AB bn.length cB) rfl
    have hsg := hq.S _ hb0.hk
    have hok := hq.ok
    rw [hok] at hsg
    have hnil : OwnB W W.heap.size 5 (.slice none 0 0) [] := ownB_nil _ _ _
    obtain ⟨i0, hif, hz0, hz1, hz2⟩ := info_parts infoU8
    have hlz : ([] : List UInt8).length + (Lib.bytesOf bn).length ≤ 1000000000 := by rw [hok]; simp; have := hq.lenB; omega
    go_wp2_with (at_builtin; refine wpList_appB rfl _ _ 24 24 rfl 5 i0 Tryd.underlying24 hif hz0 hz1 hz2 W.heap.size (.slice none 0 0) [] rfl hnil _ (Lib.bytesOf bn) rfl (by rw [hok]; exact hsg) hlz (Nat.le_refl _) ?_)
    intro v4 V hown hgrow
    try rw [List.nil_append] at hown
    obtain ⟨A5, c5, hv5, hc5, -⟩ := hown.form
    rw [hok] at hv5 hc5
    subst hv5
    have hbV := hb0.grownV hgrow
    have kc14 := hbV.c 14 (u := .slice none 0 0) rfl
    have kf14 := hbV.fz 14
    have hbS := hbV.set 14 (.slice A5 bn.length c5)
    have cFS := hbS.cF
    have ckV := hbV.c 0 (u := .int .i64 10) (by show some (Value.int .i64 c0.kind) = _; rw [hk0])
    have hownS : OwnB (V.setCell ⟨g, 14, none⟩ (.slice A5 bn.length c5)) w.heap.size 5 (.slice A5 bn.length c5) (Lib.bytesOf bn) := OwnB.le (hown.keep fun k hk => by
      have h1 := (hown.lt k hk).1
      have h2 := hb0.hk.size
      exact Below.heap_setCell V ⟨g, 14, none⟩ _ k (by show k ≠ g; omega)) hb0.hk.size
    go_wp2
    go_ret
    refine ⟨.slice A5 bn.length c5, ?_, ?_, hownS, hbS.hk⟩
    all_goals rw [show res = (c0, f0) by rw [← hres.out]; rw [← hf0.out, HC0.out]]
    all_goals first | rfl | exact hbS.hg
set_option maxHeartbeats 8000000 in
set_option maxRecDepth 10000 in
theorem beside_11 (c : CallP) (g : Nat) (m t : ByteArray) (AH : Option Addr) (cH : Nat) (hs : List PairT) (AB : Option Addr) (cB : Nat) (bn : List Int) (A : Option Addr) (cA : Nat) (l : List PairT) (w : World) (hkind : c.kind = 11)
    (hg : w.heap[g]? = some (.cells (callV c (.slice none 0 0)) 26 (0, 0))) (hl : l.length ≤ 32) (hls : ∀ q ∈ l, q.f1.size ≤ 1000000) (hC : Kd.C Pr.k41 w A l.length l) (hcA : l.length ≤ cA) (hA : ∀ ad, A = some ad → 0 < l.length → ad.block ≠ g ∧ ad.block < w.heap.size)
    (hq : ReqIn w g AH cH hs AB cB bn) (hhs : ∀ q ∈ hs, q.f1.size ≤ 1000000) :
    Calls Tryd.prog 21 #[.pointer (some ⟨g, 0, none⟩), .agg #[.string m, .string t, .slice AH hs.length cH, .slice AB bn.length cB], .slice A l.length cA] w (BesQ w g [] ((c, true))) := by
  have hb0 := Bes.start (rq := #[.string m, .string t, .slice AH hs.length cH, .slice AB bn.length cB]) hg hl hC hcA hA
  have hlt := hb0.lt
  clear hC hcA hA
  have hst := store_fn (P := Tryd.prog) (w.heap.size + 1 + 1 + 1) (textFn (w.heap.size + 1)) rfl
  unfold textFn at hb0 hst
  generalize hres : (c, true) = res
  replace hres := Lib.hid hres
  go_enter Tryd.func21, Tryd.ntmps21
  go_upto_region 5 with (fail)
  generalize (((w.alloc (.cells #[.string m, .string t, .slice AH hs.length cH, .slice AB bn.length cB] 31)).alloc (.cells #[.slice A l.length cA] 29)).alloc (.cells #[.bool true] 4)).alloc (.cells #[.func (.func 31) #[] #[.pointer (some ⟨w.heap.size + 1, 0, none⟩)]] 73) = W0 at hb0 ⊢
  clear hst
  obtain ⟨c0, hc0⟩ : ∃ c0, c0 = c := ⟨c, rfl⟩
  rw [← hc0] at hb0
  have hk0 : c0.kind = 11 := by rw [hc0]; exact hkind
  have HC0 := Lib.hid hc0
  clear hc0 hkind hg
  generalize hf0 : true = f0 at hb0
  replace hf0 := Lib.hid hf0
  have ck := hb0.c 0 (u := .int .i64 11) (by show some (Value.int .i64 c0.kind) = _; rw [hk0])
  have r0 := hb0.cR 0 (u := .string m) rfl
  have r1 := hb0.cR 1 (u := .string t) rfl
  have r2 := hb0.cR 2 (u := .slice AH hs.length cH) rfl
  have r3 := hb0.cR 3 (u := .slice AB bn.length cB) rfl
  go_wp2_with fail
  refine (get_any m t AH cH hs AB cB bn (⟨#[114, 97, 110, 103, 101]⟩ : ByteArray) _ (hq.H _ hb0.hk) hq.capH (hq.B _ hb0.hk) hq.capB hq.lenH).mono ?_
  have hrs := findP_size (⟨#[114, 97, 110, 103, 101]⟩ : ByteArray) 1000000 hs hhs
  generalize hr : findP (⟨#[114, 97, 110, 103, 101]⟩ : ByteArray) hs = r at hrs ⊢
  replace hr := Lib.hid hr
  obtain ⟨rs, is⟩ := r
  simp only at hrs ⊢
  rintro e W ⟨rfl, hbw⟩
  replace hb0 := hb0.below hbw
  clear hbw ck r0 r1 r2 r3
  have ck := hb0.c 0 (u := .int .i64 11) (by show some (Value.int .i64 c0.kind) = _; rw [hk0])
  have cF := hb0.cF
  cases is
  · as_aux_lemma =>
    go_wp2
    go_ret
    refine ⟨.slice none 0 0, ?_, ?_, ownB_nil _ _ _, hb0.hk⟩
    all_goals rw [show res = (c0, f0) by rw [← hres.out]; rw [← hf0.out, HC0.out]]
    all_goals first | rfl | exact hb0.hg
  · as_aux_lemma =>
    go_wp2
    go_ret
    refine ⟨.slice none 0 0, ?_, ?_, ownB_nil _ _ _, hb0.hk⟩
    all_goals rw [show res = (c0, f0) by rw [← hres.out]; rw [← hf0.out, HC0.out]]
    all_goals first | rfl | exact hb0.hg
set_option maxHeartbeats 8000000 in
set_option maxRecDepth 10000 in
theorem beside_14 (c : CallP) (g : Nat) (m t : ByteArray) (AH : Option Addr) (cH : Nat) (hs : List PairT) (AB : Option Addr) (cB : Nat) (bn : List Int) (A : Option Addr) (cA : Nat) (l : List PairT) (w : World) (hkind : c.kind = 14)
    (hg : w.heap[g]? = some (.cells (callV c (.slice none 0 0)) 26 (0, 0))) (hl : l.length ≤ 32) (hls : ∀ q ∈ l, q.f1.size ≤ 1000000) (hC : Kd.C Pr.k41 w A l.length l) (hcA : l.length ≤ cA) (hA : ∀ ad, A = some ad → 0 < l.length → ad.block ≠ g ∧ ad.block < w.heap.size)
    (hq : ReqIn w g AH cH hs AB cB bn) (hhs : ∀ q ∈ hs, q.f1.size ≤ 1000000) :
    Calls Tryd.prog 21 #[.pointer (some ⟨g, 0, none⟩), .agg #[.string m, .string t, .slice AH hs.length cH, .slice AB bn.length cB], .slice A l.length cA] w (BesQ w g (Lib.bytesOf bn) ((c, true))) := by
  have hb0 := Bes.start (rq := #[.string m, .string t, .slice AH hs.length cH, .slice AB bn.length cB]) hg hl hC hcA hA
  have hlt := hb0.lt
  clear hC hcA hA
  have hst := store_fn (P := Tryd.prog) (w.heap.size + 1 + 1 + 1) (textFn (w.heap.size + 1)) rfl
  unfold textFn at hb0 hst
  generalize hres : (c, true) = res
  replace hres := Lib.hid hres
  go_enter Tryd.func21, Tryd.ntmps21
  go_upto_region 5 with (fail)
  generalize (((w.alloc (.cells #[.string m, .string t, .slice AH hs.length cH, .slice AB bn.length cB] 31)).alloc (.cells #[.slice A l.length cA] 29)).alloc (.cells #[.bool true] 4)).alloc (.cells #[.func (.func 31) #[] #[.pointer (some ⟨w.heap.size + 1, 0, none⟩)]] 73) = W0 at hb0 ⊢
  clear hst
  obtain ⟨c0, hc0⟩ : ∃ c0, c0 = c := ⟨c, rfl⟩
  rw [← hc0] at hb0
  have hk0 : c0.kind = 14 := by rw [hc0]; exact hkind
  have HC0 := Lib.hid hc0
  clear hc0 hkind hg
  generalize hf0 : true = f0 at hb0
  replace hf0 := Lib.hid hf0
  have ck := hb0.c 0 (u := .int .i64 14) (by show some (Value.int .i64 c0.kind) = _; rw [hk0])
  have r0 := hb0.cR 0 (u := .string m) rfl
  have r1 := hb0.cR 1 (u := .string t) rfl
  have r2 := hb0.cR 2 (u := .slice AH hs.length cH) rfl
  have r3 := hb0.cR 3 (u := .slice AB bn.length cB) rfl
  go_wp2_with fail
  refine (get_any m t AH cH hs AB cB bn (⟨#[114, 97, 110, 103, 101]⟩ : ByteArray) _ (hq.H _ hb0.hk) hq.capH (hq.B _ hb0.hk) hq.capB hq.lenH).mono ?_
  have hrs := findP_size (⟨#[114, 97, 110, 103, 101]⟩ : ByteArray) 1000000 hs hhs
  generalize hr : findP (⟨#[114, 97, 110, 103, 101]⟩ : ByteArray) hs = r at hrs ⊢
  replace hr := Lib.hid hr
  obtain ⟨rs, is⟩ := r
  simp only at hrs ⊢
  rintro e W ⟨rfl, hbw⟩
  replace hb0 := hb0.below hbw
  clear hbw ck r0 r1 r2 r3
  have ck := hb0.c 0 (u := .int .i64 14) (by show some (Value.int .i64 c0.kind) = _; rw [hk0])
  have cF := hb0.cF
  cases is
  · as_aux_lemma =>
    have kc3 := hb0.cR 3 (u := .slice AB bn.length cB) rfl
    have hsg := hq.S _ hb0.hk
    have hok := hq.ok
    rw [hok] at hsg
    have hnil : OwnB W W.heap.size 5 (.slice none 0 0) [] := ownB_nil _ _ _
    obtain ⟨i0, hif, hz0, hz1, hz2⟩ := info_parts infoU8
    have hlz : ([] : List UInt8).length + (Lib.bytesOf bn).length ≤ 1000000000 := by rw [hok]; simp; have := hq.lenB; omega
    go_wp2_with (at_builtin; refine wpList_appB rfl _ _ 24 24 rfl 5 i0 Tryd.underlying24 hif hz0 hz1 hz2 W.heap.size (.slice none 0 0) [] rfl hnil _ (Lib.bytesOf bn) rfl (by rw [hok]; exact hsg) hlz (Nat.le_refl _) ?_)
    intro v4 V hown hgrow
    try rw [List.nil_append] at hown
    obtain ⟨A5, c5, hv5, hc5, -⟩ := hown.form
    rw [hok] at hv5 hc5
    subst hv5
    have hbV := hb0.grownV hgrow
    have kc14 := hbV.c 14 (u := .slice none 0 0) rfl
    have kf14 := hbV.fz 14
    have hbS := hbV.set 14 (.slice A5 bn.length c5)
    have cFS := hbS.cF
    have ckV := hbV.c 0 (u := .int .i64 14) (by show some (Value.int .i64 c0.kind) = _; rw [hk0])
    have hownS : OwnB (V.setCell ⟨g, 14, none⟩ (.slice A5 bn.length c5)) w.heap.size 5 (.slice A5 bn.length c5) (Lib.bytesOf bn) := OwnB.le (hown.keep fun k hk => by
      have h1 := (hown.lt k hk).1
      have h2 := hb0.hk.size
      exact Below.heap_setCell V ⟨g, 14, none⟩ _ k (by show k ≠ g; omega)) hb0.hk.size
    go_wp2
    go_ret
    refine ⟨.slice A5 bn.length c5, ?_, ?_, hownS, hbS.hk⟩
    all_goals rw [show res = (c0, f0) by rw [← hres.out]; rw [← hf0.out, HC0.out]]
    all_goals first | rfl | exact hbS.hg
  · as_aux_lemma =>
    have kc3 := hb0.cR 3 (u := .slice AB bn.length cB) rfl
    have hsg := hq.S _ hb0.hk
    have hok := hq.ok
    rw [hok] at hsg
    have hnil : OwnB W W.heap.size 5 (.slice none 0 0) [] := ownB_nil _ _ _
    obtain ⟨i0, hif, hz0, hz1, hz2⟩ := info_parts infoU8
    have hlz : ([] : List UInt8).length + (Lib.bytesOf bn).length ≤ 1000000000 := by rw [hok]; simp; have := hq.lenB; omega
    go_wp2_with (at_builtin; refine wpList_appB rfl _ _ 24 24 rfl 5 i0 Tryd.underlying24 hif hz0 hz1 hz2 W.heap.size (.slice none 0 0) [] rfl hnil _ (Lib.bytesOf bn) rfl (by rw [hok]; exact hsg) hlz (Nat.le_refl _) ?_)
    intro v4 V hown hgrow
    try rw [List.nil_append] at hown
    obtain ⟨A5, c5, hv5, hc5, -⟩ := hown.form
    rw [hok] at hv5 hc5
    subst hv5
    have hbV := hb0.grownV hgrow
    have kc14 := hbV.c 14 (u := .slice none 0 0) rfl
    have kf14 := hbV.fz 14
    have hbS := hbV.set 14 (.slice A5 bn.length c5)
    have cFS := hbS.cF
    have ckV := hbV.c 0 (u := .int .i64 14) (by show some (Value.int .i64 c0.kind) = _; rw [hk0])
    have hownS : OwnB (V.setCell ⟨g, 14, none⟩ (.slice A5 bn.length c5)) w.heap.size 5 (.slice A5 bn.length c5) (Lib.bytesOf bn) := OwnB.le (hown.keep fun k hk => by
      have h1 := (hown.lt k hk).1
      have h2 := hb0.hk.size
      exact Below.heap_setCell V ⟨g, 14, none⟩ _ k (by show k ≠ g; omega)) hb0.hk.size
    go_wp2
    go_ret
    refine ⟨.slice A5 bn.length c5, ?_, ?_, hownS, hbS.hk⟩
    all_goals rw [show res = (c0, f0) by rw [← hres.out]; rw [← hf0.out, HC0.out]]
    all_goals first | rfl | exact hbS.hg
set_option maxHeartbeats 8000000 in
set_option maxRecDepth 10000 in
theorem beside_16 (c : CallP) (g : Nat) (m t : ByteArray) (AH : Option Addr) (cH : Nat) (hs : List PairT) (AB : Option Addr) (cB : Nat) (bn : List Int) (A : Option Addr) (cA : Nat) (l : List PairT) (w : World) (hkind : c.kind = 16)
    (hg : w.heap[g]? = some (.cells (callV c (.slice none 0 0)) 26 (0, 0))) (hl : l.length ≤ 32) (hls : ∀ q ∈ l, q.f1.size ≤ 1000000) (hC : Kd.C Pr.k41 w A l.length l) (hcA : l.length ≤ cA) (hA : ∀ ad, A = some ad → 0 < l.length → ad.block ≠ g ∧ ad.block < w.heap.size)
    (hq : ReqIn w g AH cH hs AB cB bn) (hhs : ∀ q ∈ hs, q.f1.size ≤ 1000000) :
    Calls Tryd.prog 21 #[.pointer (some ⟨g, 0, none⟩), .agg #[.string m, .string t, .slice AH hs.length cH, .slice AB bn.length cB], .slice A l.length cA] w (BesQ w g [] ((c, true))) := by
  have hb0 := Bes.start (rq := #[.string m, .string t, .slice AH hs.length cH, .slice AB bn.length cB]) hg hl hC hcA hA
  have hlt := hb0.lt
  clear hC hcA hA
  have hst := store_fn (P := Tryd.prog) (w.heap.size + 1 + 1 + 1) (textFn (w.heap.size + 1)) rfl
  unfold textFn at hb0 hst
  generalize hres : (c, true) = res
  replace hres := Lib.hid hres
  go_enter Tryd.func21, Tryd.ntmps21
  go_upto_region 5 with (fail)
  generalize (((w.alloc (.cells #[.string m, .string t, .slice AH hs.length cH, .slice AB bn.length cB] 31)).alloc (.cells #[.slice A l.length cA] 29)).alloc (.cells #[.bool true] 4)).alloc (.cells #[.func (.func 31) #[] #[.pointer (some ⟨w.heap.size + 1, 0, none⟩)]] 73) = W0 at hb0 ⊢
  clear hst
  obtain ⟨c0, hc0⟩ : ∃ c0, c0 = c := ⟨c, rfl⟩
  rw [← hc0] at hb0
  have hk0 : c0.kind = 16 := by rw [hc0]; exact hkind
  have HC0 := Lib.hid hc0
  clear hc0 hkind hg
  generalize hf0 : true = f0 at hb0
  replace hf0 := Lib.hid hf0
  have ck := hb0.c 0 (u := .int .i64 16) (by show some (Value.int .i64 c0.kind) = _; rw [hk0])
  have r0 := hb0.cR 0 (u := .string m) rfl
  have r1 := hb0.cR 1 (u := .string t) rfl
  have r2 := hb0.cR 2 (u := .slice AH hs.length cH) rfl
  have r3 := hb0.cR 3 (u := .slice AB bn.length cB) rfl
  go_wp2_with fail
  refine (get_any m t AH cH hs AB cB bn (⟨#[114, 97, 110, 103, 101]⟩ : ByteArray) _ (hq.H _ hb0.hk) hq.capH (hq.B _ hb0.hk) hq.capB hq.lenH).mono ?_
  have hrs := findP_size (⟨#[114, 97, 110, 103, 101]⟩ : ByteArray) 1000000 hs hhs
  generalize hr : findP (⟨#[114, 97, 110, 103, 101]⟩ : ByteArray) hs = r at hrs ⊢
  replace hr := Lib.hid hr
  obtain ⟨rs, is⟩ := r
  simp only at hrs ⊢
  rintro e W ⟨rfl, hbw⟩
  replace hb0 := hb0.below hbw
  clear hbw ck r0 r1 r2 r3
  have ck := hb0.c 0 (u := .int .i64 16) (by show some (Value.int .i64 c0.kind) = _; rw [hk0])
  have cF := hb0.cF
  cases is
  · as_aux_lemma =>
    go_wp2
    go_ret
    refine ⟨.slice none 0 0, ?_, ?_, ownB_nil _ _ _, hb0.hk⟩
    all_goals rw [show res = (c0, f0) by rw [← hres.out]; rw [← hf0.out, HC0.out]]
    all_goals first | rfl | exact hb0.hg
  · as_aux_lemma =>
    go_wp2
    go_ret
    refine ⟨.slice none 0 0, ?_, ?_, ownB_nil _ _ _, hb0.hk⟩
    all_goals rw [show res = (c0, f0) by rw [← hres.out]; rw [← hf0.out, HC0.out]]
    all_goals first | rfl | exact hb0.hg
end Go.Proofs.YtehibiplodjofaaDoor
end
