/- Texts of this proof, put together: Rk29. -/
import Derived.Test.YtehibiplodjofaaDoorMRouteAbouta
import Derived.Test.YtehibiplodjofaaDoorMRouteAbouth
import Derived.Laws.StructEq
import Derived.Deep.RegionHeld
import Derived.MapKept
import Derived.Maps.Own
import Derived.WideKeyRuns
section
/- route.kinds: the map that its literal makes, in whatever order its entries are laid. -/
namespace Go.Proofs.YtehibiplodjofaaDoor
open Go.RowKit
set_option linter.unusedVariables false
set_option linter.unusedSimpArgs false
abbrev LineK := Int × ByteArray × ByteArray
def lineV (k : LineK) : Value := .agg #[.int .i64 k.1, .string k.2.1, .string k.2.2]
theorem heldL : Tryd.prog.stoodInHeld 48 = false := by kernel_rfl
theorem structL : Tryd.prog.underlying 48 = some (.struct (Tryd.prog.fieldsOf 48)) := by kernel_rfl
theorem bs_iff (a b : ByteArray) : (a.toList = b.toList) = (a = b) := propext ⟨fun h => bs_ext (by rwa [bs_toList, bs_toList] at h), fun h => by rw [h]⟩
set_option maxRecDepth 100000 in
theorem run_eqL (d : Nat) (x y : LineK) (w : World) : (Op.equalIn (d + 2) 48 (lineV x) (lineV y)).run Tryd.prog w = .ok (decide (x = y)) w := by
  unfold lineV
  rw [run_equalIn_agg _ (d + 1) _ _ _ structL heldL]
  have hf := Tryd.underlying48
  rw [structL] at hf
  injection hf with hf
  injection hf with hf
  rw [hf]
  obtain ⟨a, b, c⟩ := x
  obtain ⟨a', b', c'⟩ := y
  simp [go_sem]
  by_cases h1 : a = a' <;> by_cases h2 : b = b' <;> by_cases h3 : c = c' <;> simp [h1, h2, h3, bs_iff]
theorem run_equalL (x y : LineK) (w : World) : (Op.equal 48 (lineV x) (lineV y)).run Tryd.prog w = .ok (decide (x = y)) w := run_eqL 9998 x y w
def findK (k : LineK) : List (LineK × Int) → Nat → Option (Nat × Value)
  | [], _ => none
  | p :: r, i => if k = p.1 then some (i, .int .i64 p.2) else findK k r (i + 1)
theorem run_asking (w : World) (k : LineK) : ∀ (es : List MapEntry) (ks : List (LineK × Int)) (i : Nat), es.map (fun e => (e.key, e.val)) = ks.map (fun p => (lineV p.1, Value.int .i64 p.2)) →
    (Instr.findAsking 48 (lineV k) es i).run Tryd.prog w = .ok (findK k ks i) w
  | [], [], i, _ => by simp [Instr.findAsking, findK]
  | [], _ :: _, i, h => by simp at h
  | _ :: _, [], i, h => by simp at h
  | e :: es, p :: ks, i, h => by
    simp only [List.map_cons, List.cons.injEq, Prod.mk.injEq] at h
    obtain ⟨⟨h1, h2⟩, h3⟩ := h
    have ih := run_asking w k es ks (i + 1) h3
    simp only [Instr.findAsking, h1, Sem.run_bind, run_equalL, Result.andThen_ok, findK]
    by_cases hk : k = p.1
    · simp [hk, h2]
    · simp [hk, ih]
theorem run_findL (w : World) (k : LineK) (es : List MapEntry) (ks : List (LineK × Int)) (h : es.map (fun e => (e.key, e.val)) = ks.map (fun p => (lineV p.1, Value.int .i64 p.2))) :
    (Instr.findKey 48 (lineV k) es).run Tryd.prog w = .ok (findK k ks 0) w := by
  rw [run_findKey_eq w (by rw [structL]) (lineV k) es]
  exact run_asking w k es ks 0 h
set_option maxRecDepth 100000 in
theorem run_checkL (w : World) (em : Bool) (k : LineK) : (Instr.checkKey em 10000 48 (lineV k)).run Tryd.prog w = .ok () w := by
  have h : ∀ n, (Instr.checkKey em (n + 2) 48 (lineV k)).run Tryd.prog w = .ok () w := by
    intro n
    simp [Instr.checkKey, run_underlying Tryd.underlying48, lineV, go_sem, run_underlying Tryd.underlying9, run_underlying Tryd.underlying3]
  exact h 9998
def MapIs (w : World) (r : Nat) (ks : List (LineK × Int)) : Prop := ∃ es clock, w.heap[r]? = some (.map es clock) ∧ es.toList.map (fun e => (e.key, e.val)) = ks.map (fun p => (lineV p.1, Value.int .i64 p.2))
theorem run_insertL (w : World) (r : Nat) (ks : List (LineK × Int)) (k : LineK) (v : Int) (h : MapIs w r ks) (hn : findK k ks 0 = none) :
    ∃ o, (Instr.mapUpdate 53 (.map (some r)) (lineV k) (.int .i64 v)).run Tryd.prog w = .ok () { w with heap := w.heap.setIfInBounds r o } ∧ MapIs { w with heap := w.heap.setIfInBounds r o } r (ks ++ [(k, v)]) := by
  obtain ⟨es, clock, hb, he⟩ := h
  refine ⟨.map (es.push ⟨lineV k, .int .i64 v, clock⟩) (clock + 1), ?_, es.push ⟨lineV k, .int .i64 v, clock⟩, clock + 1, ?_, ?_⟩
  · simp [Instr.mapUpdate, run_underlying Tryd.underlying53, MapKept.run_getObj_map hb, run_checkL, run_findL w k es.toList ks he, hn, MapKept.run_setObj_map _ hb, Result.andThen]
  · have := (Array.getElem?_eq_some_iff.1 hb).1
    simp [this]
  · simp [he]

section
variable {P : Program} {md : Region.Mode} {ops : Array Oper} {Q : Exit → Act → World → Prop} {S : World → Prop} {a : Act}
/-- A literal's entries, in whatever order they come up: J their numbers, D what is done already, T what comes behind them all. -/
theorem lit_region (J D T : List Nat) (Inv : List Nat → World → Prop)
    (hN : ∀ i, i < ops.size → i ∈ J ∨ i ∈ D ∨ i ∈ T)
    (hJ : ∀ j ∈ J, ∃ o, ops[j]? = some o ∧ ∀ e ∈ o.after, Region.binds md e = true → e.on ∈ D)
    (hT : ∀ t ∈ T, ∃ o, ops[t]? = some o ∧ ((∃ e ∈ o.after, Region.binds md e = true ∧ e.on ∈ T) ∨ ∀ j ∈ J, ∃ e ∈ o.after, Region.binds md e = true ∧ e.on = j))
    (hop : ∀ j ∈ J, ∀ done w, (∀ x ∈ done, x ∈ J) → j ∉ done → Inv done w → ∀ K : Act → World → Prop, (∀ w', Inv (done ++ [j]) w' → K a w') → wpOp P ops Q j K a w)
    (hS : ∀ done w, Inv done w → S w)
    (hend : ∀ listed done w, listed.size = ops.size → (∀ x ∈ J ++ D, listed.getD x false = true) → (∀ x ∈ T, listed.getD x true = false) → (∀ x ∈ J, x ∈ done) → (∀ x ∈ done, x ∈ J) → Inv done w → ∀ fuel, T.length ≤ fuel → wpAnyH P md ops Q S fuel listed a w) :
    ∀ (n : Nat) (listed : Array Bool) (done : List Nat) (w : World), listed.size = ops.size → (∀ x ∈ D, listed.getD x false = true) → (∀ x ∈ T, listed.getD x true = false) → (∀ x ∈ J, listed.getD x false = true ↔ x ∈ done) → (∀ x ∈ done, x ∈ J) → (J.filter fun x => decide (x ∉ done)).length ≤ n →
      Inv done w → ∀ fuel, T.length + n ≤ fuel → wpAnyH P md ops Q S fuel listed a w := by
  intro n
  induction n with
  | zero =>
    intro listed done w hsz hD hTl hJl hsub hlen hInv fuel hf
    have hall : ∀ x ∈ J, x ∈ done := by
      intro x hx
      refine Classical.byContradiction fun hc => ?_
      have : x ∈ J.filter fun x => decide (x ∉ done) := List.mem_filter.2 ⟨hx, by simp [hc]⟩
      rw [List.length_eq_zero_iff.1 (Nat.le_zero.1 hlen)] at this
      cases this
    refine hend listed done w hsz (fun x hx => ?_) hTl hall hsub hInv fuel (by omega)
    rcases List.mem_append.1 hx with hx | hx
    · exact (hJl x hx).2 (hall x hx)
    · exact hD x hx
  | succ n ih =>
    intro listed done w hsz hD hTl hJl hsub hlen hInv fuel hf
    by_cases hall : ∀ x ∈ J, x ∈ done
    · refine hend listed done w hsz (fun x hx => ?_) hTl hall hsub hInv fuel (by omega)
      rcases List.mem_append.1 hx with hx | hx
      · exact (hJl x hx).2 (hall x hx)
      · exact hD x hx
    · obtain ⟨fuel, rfl⟩ : ∃ f, fuel = f + 1 := ⟨fuel - 1, by omega⟩
      obtain ⟨j0, hj0, hnj0⟩ : ∃ x, x ∈ J ∧ x ∉ done := by
        refine Classical.byContradiction fun hc => hall fun x hx => Classical.byContradiction fun hn => hc ⟨x, hx, hn⟩
      have hlt : ∀ {x o}, ops[x]? = some o → x < ops.size := fun h => (Array.getElem?_eq_some_iff.1 h).1
      have hgd : ∀ x, x < ops.size → listed.getD x true = listed.getD x false := fun x hx => by
        rw [← hsz] at hx
        simp [hx]
      refine ⟨fun hnil => ?_, fun i hi => ?_⟩
      · exfalso
        obtain ⟨o, ho, hb⟩ := hJ j0 hj0
        have : j0 ∈ Region.ready md ops listed := mem_ready.2 ⟨by
          rw [hgd j0 (hlt ho)]
          cases h : listed.getD j0 false
          · rfl
          · exact absurd ((hJl j0 hj0).1 h) hnj0, o, ho, fun e he hbe => hD _ (hb e he hbe)⟩
        rw [hnil] at this
        cases this
      · obtain ⟨hun, o, ho, hb⟩ := mem_ready.1 hi
        have hun' : listed.getD i false = false := by rw [← hgd i (hlt ho)]; exact hun
        rcases hN i (hlt ho) with hJi | hDi | hTi
        · have hni : i ∉ done := fun h => by rw [(hJl i hJi).2 h] at hun'; cases hun'
          refine hop i hJi done w hsub hni hInv _ fun w' hI' => ⟨hS _ _ hI', ?_⟩
          have hset : ∀ x, x ≠ i → ∀ d, (listed.setIfInBounds i true).getD x d = listed.getD x d := fun x hx d => getD_set_ne d hx.symm
          have hseti : ∀ d, (listed.setIfInBounds i true).getD i d = true := fun d => by
            have := hlt ho
            rw [← hsz] at this
            simp [this]
          refine ih (listed.setIfInBounds i true) (done ++ [i]) w' (by simpa using hsz) (fun x hx => ?_) (fun x hx => ?_) (fun x hx => ?_) (fun x hx => ?_) ?_ hI' fuel (by omega)
          · by_cases hxi : x = i
            · rw [hxi]; exact hseti _
            · rw [hset x hxi]; exact hD x hx
          · have hxi : x ≠ i := by
              rintro rfl
              obtain ⟨o', ho', h⟩ := hT x hx
              rw [ho] at ho'
              cases ho'
              rcases h with ⟨e, he, hbe, het⟩ | h
              · have h1 := hb e he hbe
                have h2 := hTl _ het
                have h3 : e.on < listed.size := by
                  refine Classical.byContradiction fun hc => ?_
                  simp [Array.getElem?_eq_none (Nat.le_of_not_lt hc)] at h1
                simp [h3] at h1 h2
                rw [h1] at h2
                cases h2
              · obtain ⟨e, he, hbe, rfl⟩ := h j0 hj0
                exact hnj0 ((hJl _ hj0).1 (hb e he hbe))
            rw [hset x hxi]
            exact hTl x hx
          · by_cases hxi : x = i
            · subst hxi
              rw [hseti]
              simp
            · rw [hset x hxi, hJl x hx]
              simp [hxi]
          · rcases List.mem_append.1 hx with hx | hx
            · exact hsub x hx
            · rw [List.mem_singleton.1 hx]; exact hJi
          · have h1 : (J.filter fun x => decide (x ∉ done ++ [i])) = (J.filter fun x => decide (x ∉ done)).filter fun x => decide (x ≠ i) := by
              rw [List.filter_filter]
              apply List.filter_congr
              intro x _
              simp [Bool.and_comm]
            have h2 : ((J.filter fun x => decide (x ∉ done)).filter fun x => decide (x ≠ i)).length < (J.filter fun x => decide (x ∉ done)).length :=
              List.length_filter_lt_length_iff_exists.2 ⟨i, List.mem_filter.2 ⟨hJi, by simp [hni]⟩, by simp⟩
            rw [h1]
            omega
        · rw [hD i hDi] at hun'
          cases hun'
        · exfalso
          obtain ⟨o', ho', h⟩ := hT i hTi
          rw [ho] at ho'
          cases ho'
          rcases h with ⟨e, he, hbe, het⟩ | h
          · have h1 := hb e he hbe
            have h2 := hTl _ het
            have h3 : e.on < listed.size := by
              refine Classical.byContradiction fun hc => ?_
              simp [Array.getElem?_eq_none (Nat.le_of_not_lt hc)] at h1
            simp [h3] at h1 h2
            rw [h1] at h2
            cases h2
          · obtain ⟨e, he, hbe, rfl⟩ := h j0 hj0
            exact hnj0 ((hJl _ hj0).1 (hb e he hbe))
end
end Go.Proofs.YtehibiplodjofaaDoor
end
