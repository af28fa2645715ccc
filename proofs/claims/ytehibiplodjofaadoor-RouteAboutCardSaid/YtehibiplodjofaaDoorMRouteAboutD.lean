/- Texts of this proof, put together: Rs29, Rv29, Rt29, Ru29, Rw29, Rx29, Ry29, RA29. -/
import Derived.Test.YtehibiplodjofaaDoorMRouteAboutC
import Derived.Test.YtehibiplodjofaaDoorMRouteAboutw
import Derived.Test.YtehibiplodjofaaDoorMRouteAboutu
import Derived.Laws.Rows
import Derived.Laws.Tables
import Derived.Test.YtehibiplodjofaaDoorWFootNe
import Derived.Laws.OwnMore
import Derived.Test.YtehibiplodjofaaDoorMRouteAboutf
import Derived.Test.YtehibiplodjofaaDoorMRouteAboutj
section
/- route.Of: what it answers, in plain words; beside at every kind. -/
namespace Go.Proofs.YtehibiplodjofaaDoor
open Go.RowKit Go.Proofs.YtehibiplodjofaaDoorW.PrintWords Go.Proofs.YtehibiplodjofaaDoorW.PrintLast Go.Proofs.YtehibiplodjofaaDoorW.PrintMore
set_option linter.unusedVariables false
set_option linter.unusedSimpArgs false
def besideP (c : CallP) (l hs : List PairT) : CallP × Bool :=
  if c.kind = 5 ∨ c.kind = 6 then besPage c l else if c.kind = 12 then besGet c l hs else if c.kind = 13 ∨ c.kind = 15 then besVer c l else if c.kind = 17 then besPart c l else if c.kind = 18 ∨ c.kind = 19 ∨ c.kind = 20 then besUp c l else (c, true)
def bodyK (k : Int) (b : List UInt8) : List UInt8 := if k = 8 ∨ k = 10 ∨ k = 14 ∨ k = 17 ∨ k = 19 then b else []
theorem beside_any (c : CallP) (g : Nat) (m t : ByteArray) (AH : Option Addr) (cH : Nat) (hs : List PairT) (AB : Option Addr) (cB : Nat) (bn : List Int) (A : Option Addr) (cA : Nat) (l : List PairT) (w : World) (hk1 : 1 ≤ c.kind) (hk2 : c.kind ≤ 20)
    (hg : w.heap[g]? = some (.cells (callV c (.slice none 0 0)) 26 (0, 0))) (hl : l.length ≤ 32) (hls : ∀ q ∈ l, q.f1.size ≤ 1000000) (hC : Kd.C Pr.k41 w A l.length l) (hcA : l.length ≤ cA) (hA : ∀ ad, A = some ad → 0 < l.length → ad.block ≠ g ∧ ad.block < w.heap.size)
    (hq : ReqIn w g AH cH hs AB cB bn) (hhs : ∀ q ∈ hs, q.f1.size ≤ 1000000) :
    Calls Tryd.prog 21 #[.pointer (some ⟨g, 0, none⟩), .agg #[.string m, .string t, .slice AH hs.length cH, .slice AB bn.length cB], .slice A l.length cA] w (BesQ w g (bodyK c.kind (Lib.bytesOf bn)) (besideP c l hs)) := by
  have h : c.kind = 1 ∨ c.kind = 2 ∨ c.kind = 3 ∨ c.kind = 4 ∨ c.kind = 5 ∨ c.kind = 6 ∨ c.kind = 7 ∨ c.kind = 8 ∨ c.kind = 9 ∨ c.kind = 10 ∨ c.kind = 11 ∨ c.kind = 12 ∨ c.kind = 13 ∨ c.kind = 14 ∨ c.kind = 15 ∨ c.kind = 16 ∨ c.kind = 17 ∨ c.kind = 18 ∨ c.kind = 19 ∨ c.kind = 20 := by omega
  unfold besideP bodyK
  rcases h with h | h | h | h | h | h | h | h | h | h | h | h | h | h | h | h | h | h | h | h
  · have := beside_1 c g m t AH cH hs AB cB bn A cA l w h hg hl hls hC hcA hA hq hhs; simpa [h] using this
  · have := beside_2 c g m t AH cH hs AB cB bn A cA l w h hg hl hls hC hcA hA hq hhs; simpa [h] using this
  · have := beside_3 c g m t AH cH hs AB cB bn A cA l w h hg hl hls hC hcA hA hq hhs; simpa [h] using this
  · have := beside_4 c g m t AH cH hs AB cB bn A cA l w h hg hl hls hC hcA hA hq hhs; simpa [h] using this
  · have := beside_5 c g m t AH cH hs AB cB bn A cA l w h hg hl hls hC hcA hA hq hhs; simpa [h] using this
  · have := beside_6 c g m t AH cH hs AB cB bn A cA l w h hg hl hls hC hcA hA hq hhs; simpa [h] using this
  · have := beside_7 c g m t AH cH hs AB cB bn A cA l w h hg hl hls hC hcA hA hq hhs; simpa [h] using this
  · have := beside_8 c g m t AH cH hs AB cB bn A cA l w h hg hl hls hC hcA hA hq hhs; simpa [h] using this
  · have := beside_9 c g m t AH cH hs AB cB bn A cA l w h hg hl hls hC hcA hA hq hhs; simpa [h] using this
  · have := beside_10 c g m t AH cH hs AB cB bn A cA l w h hg hl hls hC hcA hA hq hhs; simpa [h] using this
  · have := beside_11 c g m t AH cH hs AB cB bn A cA l w h hg hl hls hC hcA hA hq hhs; simpa [h] using this
  · have := beside_12 c g m t AH cH hs AB cB bn A cA l w h hg hl hls hC hcA hA hq hhs; simpa [h] using this
  · have := beside_13 c g m t AH cH hs AB cB bn A cA l w h hg hl hls hC hcA hA hq hhs; simpa [h] using this
  · have := beside_14 c g m t AH cH hs AB cB bn A cA l w h hg hl hls hC hcA hA hq hhs; simpa [h] using this
  · have := beside_15 c g m t AH cH hs AB cB bn A cA l w h hg hl hls hC hcA hA hq hhs; simpa [h] using this
  · have := beside_16 c g m t AH cH hs AB cB bn A cA l w h hg hl hls hC hcA hA hq hhs; simpa [h] using this
  · have := beside_17 c g m t AH cH hs AB cB bn A cA l w h hg hl hls hC hcA hA hq hhs; simpa [h] using this
  · have := beside_18 c g m t AH cH hs AB cB bn A cA l w h hg hl hls hC hcA hA hq hhs; simpa [h] using this
  · have := beside_19 c g m t AH cH hs AB cB bn A cA l w h hg hl hls hC hcA hA hq hhs; simpa [h] using this
  · have := beside_20 c g m t AH cH hs AB cB bn A cA l w h hg hl hls hC hcA hA hq hhs; simpa [h] using this
def zcall : CallP := ⟨0, ⟨#[]⟩, ⟨#[]⟩, ⟨#[]⟩, ⟨#[]⟩, 0, ⟨#[]⟩, ⟨#[]⟩, ⟨#[]⟩, ⟨#[]⟩, 0, false, 0, 0⟩
def lookK (k : LineK) : Option Int := (kindsT.find? fun p => decide (p.1 = k)).map (·.2)
def theseP (a : Int) : List ByteArray := if a = 1 then [(⟨#[118, 101, 114, 115, 105, 111, 110, 115]⟩ : ByteArray), (⟨#[118, 101, 114, 115, 105, 111, 110, 105, 110, 103]⟩ : ByteArray), (⟨#[108, 105, 102, 101, 99, 121, 99, 108, 101]⟩ : ByteArray)] else if a = 2 then [(⟨#[117, 112, 108, 111, 97, 100, 115]⟩ : ByteArray), (⟨#[117, 112, 108, 111, 97, 100, 73, 100]⟩ : ByteArray)] else []
def qGo (l : List PairT) : ByteArray → List ByteArray → Option ByteArray
  | q, [] => some q
  | q, n :: r => if (findP n l).2 = true then (if q = ⟨#[]⟩ then qGo l n r else none) else qGo l q r
def setBK (c : CallP) : Option (ByteArray × ByteArray) → CallP
  | none => c
  | some (b, k) => { c with bucket := b, key := k }
theorem setBK_cells (c : CallP) (v : Value) (o : Option (ByteArray × ByteArray)) : aboutC (callV c v) o = callV (setBK c o) v := by cases o <;> rfl
def ofP (m t : ByteArray) (hs : List PairT) (body : List UInt8) : (CallP × List UInt8) × Int :=
  let T := targetV t.data.toList
  let Ab := aboutP T.1
  if T.2.2 ≠ 0 then ((zcall, []), T.2.2)
  else if Ab.1.2 = false then ((zcall, []), 13)
  else match qGo T.2.1 ⟨#[]⟩ (theseP Ab.1.1) with
    | none => ((zcall, []), 2)
    | some q => match lookK (Ab.1.1, m, q) with
      | none => ((zcall, []), 390)
      | some k =>
        let r := besideP { setBK zcall Ab.2 with kind := k } T.2.1 hs
        if r.2 = true then ((r.1, bodyK k body), 0) else ((zcall, []), 2)
/-- An entry of the map, looked up. -/
theorem findK_some (k : LineK) : ∀ (ks : List (LineK × Int)) (i : Nat), (∀ p ∈ ks, p ∈ kindsT) → match findK k ks i with
    | none => ∀ p ∈ ks, k ≠ p.1
    | some (_, v) => ∃ n, v = .int .i64 n ∧ (k, n) ∈ kindsT
  | [], i, _ => by simp [findK]
  | p :: r, i, h => by
    have ih := findK_some k r (i + 1) fun q hq => h q (by simp [hq])
    unfold findK
    by_cases he : k = p.1
    · rw [if_pos he]
      exact ⟨p.2, rfl, he ▸ h p (by simp)⟩
    · rw [if_neg he]
      revert ih
      cases findK k r (i + 1) with
      | none =>
        intro ih q hq
        rcases List.mem_cons.1 hq with rfl | hq
        · exact he
        · exact ih q hq
      | some x => exact fun ih => ih
theorem kinds_uniq : ∀ p ∈ kindsT, ∀ q ∈ kindsT, p.1 = q.1 → p = q := by decide +kernel
theorem kinds_range : ∀ p ∈ kindsT, 1 ≤ p.2 ∧ p.2 ≤ 20 := by decide +kernel
theorem lookK_mem {k : LineK} {n : Int} (h : (k, n) ∈ kindsT) : lookK k = some n := by
  unfold lookK
  cases hf : kindsT.find? fun p => decide (p.1 = k) with
  | none => exact absurd (List.find?_eq_none.1 hf (k, n) h) (by simp)
  | some p =>
    have h1 := List.mem_of_find?_eq_some hf
    have h2 : p.1 = k := by simpa using List.find?_some hf
    have := kinds_uniq p h1 (k, n) h h2
    simp [this]
theorem lookK_none {k : LineK} (h : ∀ p ∈ kindsT, k ≠ p.1) : lookK k = none := by
  unfold lookK
  rw [List.find?_eq_none.2 fun p hp => by simpa using fun e => h p hp e.symm]
  rfl
theorem lookK_range {k : LineK} {n : Int} (h : lookK k = some n) : 1 ≤ n ∧ n ≤ 20 := by
  unfold lookK at h
  cases hf : kindsT.find? fun p => decide (p.1 = k) with
  | none => rw [hf] at h; cases h
  | some p =>
    rw [hf] at h
    cases h
    exact kinds_range p (List.mem_of_find?_eq_some hf)
theorem findK_look (k : LineK) (ks : List (LineK × Int)) (h1 : ∀ p ∈ ks, p ∈ kindsT) (h2 : ∀ p ∈ kindsT, p ∈ ks) : match lookK k with
    | none => findK k ks 0 = none
    | some n => ∃ i, findK k ks 0 = some (i, .int .i64 n) := by
  have h := findK_some k ks 0 h1
  split at h
  · rename_i hn
    rw [lookK_none fun p hp => h p (h2 p hp)]
    exact hn
  · rename_i i v hv
    obtain ⟨n, rfl, hm⟩ := h
    rw [lookK_mem hm]
    exact ⟨i, hv⟩
/-- The map looked up at an operation. -/
theorem run_lookL (w : World) (r : Nat) (ks : List (LineK × Int)) (k : LineK) (h : MapIs w r ks) (h1 : ∀ p ∈ ks, p ∈ kindsT) (h2 : ∀ p ∈ kindsT, p ∈ ks) :
    (Instr.lookup 53 (.map (some r)) (lineV k) true).run Tryd.prog w = .ok (match lookK k with | none => .tuple #[.int .i64 0, .bool false] | some n => .tuple #[.int .i64 n, .bool true]) w := by
  obtain ⟨es, clock, hb, he⟩ := h
  have hf := findK_look k ks h1 h2
  have hfl := run_findL w k es.toList ks he
  have hz : (zeroValue 3).run Tryd.prog w = .ok (.int .i64 0) w := by kernel_rfl
  cases hl : lookK k with
  | none =>
    rw [hl] at hf
    rw [hf] at hfl
    simp [Instr.lookup, run_underlying Tryd.underlying53, MapKept.run_getObj_map hb, run_checkL, hfl, hz, Result.andThen]
  | some n =>
    rw [hl] at hf
    obtain ⟨i, hf⟩ := hf
    rw [hf] at hfl
    simp [Instr.lookup, run_underlying Tryd.underlying53, MapKept.run_getObj_map hb, run_checkL, hfl, Result.andThen]
end Go.Proofs.YtehibiplodjofaaDoor
end
section
/- Route: how long what a target tells is. -/
namespace Go.Proofs.YtehibiplodjofaaDoor
open Go.RowKit Go.Proofs.YtehibiplodjofaaDoorW.PrintWords Go.Proofs.YtehibiplodjofaaDoorW.PrintLast Go.Proofs.YtehibiplodjofaaDoorW.PrintMore
set_option linter.unusedVariables false
set_option linter.unusedSimpArgs false
theorem pdec_le (bl : Bool) : ∀ (n : Nat) (l p : List UInt8), l.length ≤ n → pdec bl l = some p → p.length ≤ l.length
  | _, [], p, _, h => by
    rw [pdec.eq_def] at h
    simp only [Option.some.injEq] at h
    rw [← h]
    exact Nat.le_refl _
  | 0, c :: r, p, hn, h => by simp at hn
  | n + 1, c :: r, p, hn, h => by
    simp only [List.length_cons] at hn
    rw [pdec.eq_def] at h
    simp only at h
    split at h
    · split at h
      · rename_i a b r'
        simp only [List.length_cons] at hn
        split at h
        · cases h
        · split at h
          · cases h
          · obtain ⟨q, hq, rfl⟩ := Option.map_eq_some_iff.1 h
            have := pdec_le bl n r' q (by omega) hq
            simp only [List.length_cons]
            omega
      · cases h
    · split at h
      · obtain ⟨q, hq, rfl⟩ := Option.map_eq_some_iff.1 h
        have := pdec_le bl n r q (by omega) hq
        simp only [List.length_cons]
        omega
      · split at h
        · cases h
        · split at h
          · cases h
          · obtain ⟨q, hq, rfl⟩ := Option.map_eq_some_iff.1 h
            have := pdec_le bl n r q (by omega) hq
            simp only [List.length_cons]
            omega
theorem pdec_head {r p : List UInt8} (h : pdec false (47 :: r) = some p) : ∃ p', p = 47 :: p' := by
  rw [pdec_plain false 47 r (by decide) (by decide), if_neg (by decide), if_neg (by decide)] at h
  obtain ⟨q, _, rfl⟩ := Option.map_eq_some_iff.1 h
  exact ⟨q, rfl⟩
theorem splitN_le (sep : List UInt8) : ∀ (n : Nat) (l x : List UInt8), x ∈ splitN sep n l → x.length ≤ l.length
  | 0, l, x, h => by
    simp [splitN] at h
    rw [h]
    exact Nat.le_refl _
  | n + 1, l, x, h => by
    unfold splitN at h
    split at h
    · simp at h
      rw [h]
      exact Nat.le_refl _
    · rcases List.mem_cons.1 h with rfl | h
      · rw [List.length_take]; omega
      · have := splitN_le sep n _ x h
        rw [List.length_drop] at this
        omega
theorem partQ_le (B : Nat) (x : List UInt8) (hx : x.length ≤ B) (l : List PairP) (h : partQ x = some l) : ∀ q ∈ l, q.2.length ≤ B := by
  unfold partQ at h
  split at h
  · cases h
    simp
  · split at h
    · rename_i a b ha hb
      cases h
      intro q hq
      rw [List.mem_singleton.1 hq]
      have h1 := pdec_le true _ _ _ (Nat.le_refl _) hb
      have h2 := cutF_len 61 x
      simp only
      omega
    · cases h
theorem stepQ_le (B : Nat) : ∀ (L : List (List UInt8)) (o : Option (List PairP)), (∀ x ∈ L, x.length ≤ B) → (∀ l, o = some l → ∀ q ∈ l, q.2.length ≤ B) → ∀ l, L.foldl stepQ o = some l → ∀ q ∈ l, q.2.length ≤ B
  | [], o, _, ho, l, h => ho l h
  | x :: r, o, hL, ho, l, h => by
    rw [List.foldl_cons] at h
    refine stepQ_le B r (stepQ o x) (fun y hy => hL y (by simp [hy])) (fun l' hl' => ?_) l h
    unfold stepQ at hl'
    split at hl'
    · rename_i l1 m1 hm
      cases hl'
      intro q hq
      rcases List.mem_append.1 hq with hq | hq
      · exact ho l1 rfl q hq
      · exact partQ_le B x (hL x (by simp)) m1 hm q hq
    · cases hl'
theorem queryV_vals (l : List UInt8) : ∀ q ∈ (queryV l).1, q.2.length ≤ 2048 := by
  unfold queryV
  split
  · simp
  · rename_i hl
    split
    · simp
    · rename_i o ho
      split
      · simp
      · exact stepQ_le 2048 _ (some []) (fun x hx => by have := splitN_le [38] _ _ x hx; omega) (fun l h => by cases h; simp) o ho
theorem targetV_vals (l : List UInt8) : ∀ q ∈ (targetV l).2.1, q.f1.size ≤ 1000000 := by
  unfold targetV
  split
  · simp
  · split
    · split
      · simp
      · split
        · intro q hq
          simp only at hq
          obtain ⟨p, hp, rfl⟩ := List.mem_map.1 hq
          have := queryV_vals _ p hp
          show (⟨p.2.toArray⟩ : ByteArray).size ≤ 1000000
          rw [mk_size]
          omega
        · simp
    · simp
theorem targetV_path (l : List UInt8) (h : (targetV l).2.2 = 0) : 1 ≤ (targetV l).1.size ∧ (targetV l).1.size ≤ 1000000 := by
  unfold targetV at h ⊢
  split at h
  · simp at h
  · rename_i hl
    rw [if_neg hl]
    split at h
    · rename_i hh
      rw [if_pos hh]
      split at h
      · simp at h
      · rename_i p hp
        split at h
        · rename_i hq
          rw [if_pos hq]
          simp only
          rw [mk_size]
          obtain ⟨c, r, hcr⟩ : ∃ c r, (cutF 63 l).1 = c :: r := by
            cases hc : (cutF 63 l).1 with
            | nil => rw [hc] at hh; cases hh
            | cons c r => exact ⟨c, r, rfl⟩
          rw [hcr] at hh hp
          cases hh
          have h1 := pdec_le false _ _ _ (Nat.le_refl _) hp
          obtain ⟨p', rfl⟩ := pdec_head hp
          have h2 := cutF_len 63 l
          rw [hcr] at h2
          simp only [List.length_cons] at h1 h2 ⊢
          omega
        · rename_i hq
          exact absurd h hq
    · simp at h
theorem target_any (t : ByteArray) (ht : t.size ≤ 1000000) (w : World) : Calls Tryd.prog 16 #[.string t] w fun e w' => ∃ v1, e = .returned (.tuple #[.string (targetV t.data.toList).1, v1, .int .i64 (targetV t.data.toList).2.2]) ∧ Kd.R Pr.k41 41 w' w.heap.size (fun _ => True) v1 (targetV t.data.toList).2.1 ∧ Below w.heap.size w w' := by
  have h := ptarget_f t.data.toList 4000 (by rw [← bs_len]; exact ht)
  have he : (⟨t.data.toList.toArray⟩ : ByteArray) = t := bs_ext (by simp)
  rw [he] at h
  exact Pr.percent_Target.calls 4001 t _ _ _ w h
end Go.Proofs.YtehibiplodjofaaDoor
end
section
/- route.Of, by its walk. -/
namespace Go.Proofs.YtehibiplodjofaaDoor
open Go.RowKit Go.Proofs.YtehibiplodjofaaDoorW.PrintWords Go.Proofs.YtehibiplodjofaaDoorW.PrintLast Go.Proofs.YtehibiplodjofaaDoorW.PrintMore
set_option linter.unusedVariables false
set_option linter.unusedSimpArgs false
theorem results_row_one {P : Program} {fn : Func} {p u : Tmp} {ty : TypeId} (h : fn.results = #[.cell p ty, .tmp u]) (tmps : Array Value) (w : World) (g : Nat) (t : TypeId) (cs : Array Value) (fr : Nat × Nat) (d : TypeDesc) (v : Value)
    (hp : tmps.getD p undef = .pointer (some ⟨g, 0, none⟩)) (hq : tmps.getD u undef = v) (hg : w.heap[g]? = some (.cells cs t fr))
    (hu : P.underlying ty = some d) (hd : (match d with | .struct _ | .array _ _ => true | _ => false) = true) (hi : (P.info? ty).map (·.size) = some cs.size) :
    (results fn tmps).run P w = .ok (.tuple #[.agg cs, v]) w := by
  rw [results_cell_tmp h, hp, hq]
  simp [asAddr, run_loadVar_row w g t ty cs fr d hg hu hd hi]
theorem of_ress : Tryd.f10.results = #[.cell 2 26, .tmp 3] := by kernel_rfl
theorem call15 : (Tryd.prog.info? 26).map (·.size) = some 15 := by kernel_rfl
def zc : Array Value := #[.int .i64 0, .string ⟨#[]⟩, .string ⟨#[]⟩, .string ⟨#[]⟩, .string ⟨#[]⟩, .int .i64 0, .string ⟨#[]⟩, .string ⟨#[]⟩, .string ⟨#[]⟩, .string ⟨#[]⟩, .int .i64 0, .bool false, .int .i64 0, .int .i64 0, .slice none 0 0]
def OfQ (w : World) (r : (CallP × List UInt8) × Int) (e : Ending) (w' : World) : Prop := ∃ bv, e = .returned (.tuple #[.agg (callV r.1.1 bv), .int .i64 r.2]) ∧ OwnB w' w.heap.size 5 bv r.1.2 ∧ Below w.heap.size w w'
theorem OfQ.err {w W : World} {r : (CallP × List UInt8) × Int} {n : Int} (h : r = ((zcall, []), n)) (hb : Below w.heap.size w W) : OfQ w r (.returned (.tuple #[.agg zc, .int .i64 n])) W := by
  subst h
  exact ⟨.slice none 0 0, rfl, ownB_nil _ _ _, hb⟩
theorem below_setRow' {B : Nat} {w W : World} (h : Below B w W) {g : Nat} (hg : B ≤ g) (cs : Array Value) : Below B w (W.setRow g cs) :=
  ⟨h.os, h.tape, h.output, by rw [size_setRow]; exact h.size, fun k hk => by rw [setRow_other W g k cs (by omega)]; exact h.block k hk⟩
theorem lt_of_eq' {a b c : Nat} (h : b = c) (h2 : a < c) : a < b := by omega
theorem two_blocks (w : World) (o1 o2 : Obj) : ((w.alloc o1).alloc o2).heap[w.heap.size]? = some o1 ∧ ((w.alloc o1).alloc o2).heap[w.heap.size + 1]? = some o2 ∧ Below w.heap.size w ((w.alloc o1).alloc o2) ∧ ((w.alloc o1).alloc o2).heap.size = w.heap.size + 2 := by
  have s1 : (w.alloc o1).heap.size = w.heap.size + 1 := by simp
  refine ⟨blk_alloc (heap_alloc_new _ _) _, ?_, ((Below.refl _ w).alloc (Nat.le_refl _) _).alloc (by omega) _, by simp⟩
  rw [← s1]
  exact heap_alloc_new _ _
theorem pairs_form {w : World} {base : Nat} {v : Value} {l : List PairT} (h : Kd.R Pr.k41 41 w base (fun _ => True) v l) : ∃ A c, v = .slice A l.length c ∧ l.length ≤ c ∧ Kd.C Pr.k41 w A l.length l ∧ ∀ ad, A = some ad → 0 < l.length → base ≤ ad.block ∧ ad.block < w.heap.size := by
  obtain ⟨A, c, rfl, hc, hC⟩ := Kd.R_reads h
  refine ⟨A, c, rfl, hc, hC, fun ad h1 h2 => ?_⟩
  obtain ⟨g, cap, h3, h4, h5, _⟩ := Kd.R_form h h2
  rw [h1] at h3
  injection h3 with h3
  injection h3 with h3
  rw [h3]
  exact ⟨h4, h5⟩
theorem yields_rowR {P : Program} {ops : Array Oper} {S : World → Prop} {o : Oper} {a : Act} (hw : Region.wanted o (yielded ops a.tmps) = true) (ty : TypeId) (x : Operand) (ho : o.op = .load ty x)
    (g : Nat) (hx : a.eval x = .pointer (some ⟨g, 0, none⟩)) (t : TypeId) (cs : Array Value) (fr : Nat × Nat) (d : TypeDesc) (hg : ∀ w, S w → w.heap[g]? = some (.cells cs t fr))
    (hu : P.underlying ty = some d) (hd : (match d with | .struct _ | .array _ _ => true | _ => false) = true) (hi : (P.info? ty).map (·.size) = some cs.size) : YieldsIf P ops S o (.agg cs) a := by
  refine .inl ⟨hw, fun w hs => ?_⟩
  unfold execOp
  simp only [ho, hx, Instr.loadAt, Instr.sureAddr, Sem.run_bind, Sem.run_pure, Result.andThen_ok, run_loadVar_row w g t ty cs fr d (hg w hs) hu hd hi]
theorem line3 : (Tryd.prog.info? 48).map (·.size) = some 3 := by kernel_rfl
structure OfS (w W : World) (g L : Nat) (rq : Array Value) (l : List PairT) (A : Option Addr) (cs ln : Array Value) (names : List ByteArray) (A' : Option Addr) : Prop where
  gn : w.heap.size + 2 ≤ g
  Lg : g < L
  hQ : W.heap[w.heap.size]? = some (.cells rq 31 (0, 0))
  hA : W.heap[w.heap.size + 1]? = some (.cells zc 26 (0, 0))
  hg : W.heap[g]? = some (.cells cs 26 (0, 0))
  hL : W.heap[L]? = some (.cells ln 48 (0, 0))
  hC : Kd.C Pr.k41 W A l.length l
  nC : ∀ ad, A = some ad → 0 < l.length → ad.block < g ∧ w.heap.size + 2 ≤ ad.block
  hN : Kd.C Kd.string W A' names.length names
  nN : ∀ ad, A' = some ad → 0 < names.length → L < ad.block
  hb : Below w.heap.size w W
theorem names_still {w w' : World} {A : Option Addr} {l : List ByteArray} {S : Nat → Prop} (h : Kd.C Kd.string w A l.length l) (hn : ∀ ad, A = some ad → 0 < l.length → ¬ S ad.block) (hk : Keeps S w w') : Kd.C Kd.string w' A l.length l :=
  Kd.C_foot_neS (S := S) (fun {W W' x cs} hx => hx) h hn w' ⟨hk.size, hk.block⟩
theorem OfS.step {w W W' : World} {g L : Nat} {rq : Array Value} {l : List PairT} {A : Option Addr} {cs ln cs' ln' : Array Value} {names : List ByteArray} {A' : Option Addr} (h : OfS w W g L rq l A cs ln names A') (hk : Keeps (fun k => k = g ∨ k = L) W W')
    (hg' : W'.heap[g]? = some (.cells cs' 26 (0, 0))) (hL' : W'.heap[L]? = some (.cells ln' 48 (0, 0))) : OfS w W' g L rq l A cs' ln' names A' := by
  have h1 := h.gn
  have h2 := h.Lg
  exact ⟨h1, h2, (hk.block _ (blk_lt h.hQ) (by omega)).trans h.hQ, (hk.block _ (blk_lt h.hA) (by omega)).trans h.hA, hg', hL', pairs_still h.hC (fun ad e1 e2 e3 => by have := h.nC ad e1 e2; omega) hk, h.nC,
    names_still h.hN (fun ad e1 e2 e3 => by have := h.nN ad e1 e2; omega) hk, h.nN, h.hb.trans (hk.below (by have := h.hb.size; omega) (fun k hk e => by omega))⟩
theorem OfS.below {w W W' : World} {g L : Nat} {rq : Array Value} {l : List PairT} {A : Option Addr} {cs ln : Array Value} {names : List ByteArray} {A' : Option Addr} (h : OfS w W g L rq l A cs ln names A') (hb : Below W.heap.size W W') : OfS w W' g L rq l A cs ln names A' :=
  h.step (Keeps.ofBelow _ hb) (blk_below h.hg hb) (blk_below h.hL hb)
theorem OfS.setL {w W : World} {g L : Nat} {rq : Array Value} {l : List PairT} {A : Option Addr} {cs ln : Array Value} {names : List ByteArray} {A' : Option Addr} (h : OfS w W g L rq l A cs ln names A') (i : Nat) (u : Value) : OfS w (W.setCell ⟨L, i, none⟩ u) g L rq l A cs (ln.setIfInBounds i u) names A' :=
  h.step ((Keeps.refl _ W).setCell (p := ⟨L, i, none⟩) (fun _ => .inr rfl) u) (blk_far h.hg (p := ⟨L, i, none⟩) (by have := h.Lg; show g ≠ L; omega) u) (blk_set h.hL i u)
theorem OfS.setG {w W : World} {g L : Nat} {rq : Array Value} {l : List PairT} {A : Option Addr} {cs ln : Array Value} {names : List ByteArray} {A' : Option Addr} (h : OfS w W g L rq l A cs ln names A') (i : Nat) (u : Value) : OfS w (W.setCell ⟨g, i, none⟩ u) g L rq l A (cs.setIfInBounds i u) ln names A' :=
  h.step ((Keeps.refl _ W).setCell (p := ⟨g, i, none⟩) (fun _ => .inl rfl) u) (blk_set h.hg i u) (blk_far h.hL (p := ⟨g, i, none⟩) (by have := h.Lg; show L ≠ g; omega) u)
theorem name_cell {W : World} {A' : Option Addr} {names : List ByteArray} (h : Kd.C Kd.string W A' names.length names) {k : Nat} {nm : ByteArray} (hk : names[k]? = some nm) : ∃ ad, A' = some ad ∧ W.cell? (ad.add k) = some (.string nm) := by
  have hlt := (List.getElem?_eq_some_iff.1 hk).1
  obtain ⟨ad, rfl, hc⟩ := h.2.2 (by omega)
  obtain ⟨cs, _, h2, h3⟩ := hc k nm hk
  have h2' : cs = [Value.string nm] := h2
  subst h2'
  have := h3 0 (.string nm) rfl
  exact ⟨ad, rfl, by simpa [Kd.string, Kd.scalar] using this⟩
theorem ofP_name {m t path : ByteArray} {hs l : List PairT} {body : List UInt8} {ar : Int} {bk : Option (ByteArray × ByteArray)} (h1 : targetV t.data.toList = (path, l, 0)) (h2 : aboutP path = ((ar, false), bk)) : ofP m t hs body = ((zcall, []), 13) := by
  unfold ofP
  simp [h1, h2]
def ofGo (m : ByteArray) (hs l : List PairT) (body : List UInt8) (ar : Int) (bk : Option (ByteArray × ByteArray)) : Option ByteArray → (CallP × List UInt8) × Int
  | none => ((zcall, []), 2)
  | some q => match lookK (ar, m, q) with
    | none => ((zcall, []), 390)
    | some k => if (besideP { setBK zcall bk with kind := k } l hs).2 = true then (((besideP { setBK zcall bk with kind := k } l hs).1, bodyK k body), 0) else ((zcall, []), 2)
theorem ofP_go {m t path : ByteArray} {hs l : List PairT} {body : List UInt8} {ar : Int} {bk : Option (ByteArray × ByteArray)} (h1 : targetV t.data.toList = (path, l, 0)) (h2 : aboutP path = ((ar, true), bk)) : ofP m t hs body = ofGo m hs l body ar bk (qGo l ⟨#[]⟩ (theseP ar)) := by
  unfold ofP ofGo
  simp only [h1, h2]
  rw [if_neg (by simp), if_neg (by simp)]
  all_goals rfl
set_option maxHeartbeats 8000000 in
set_option maxRecDepth 10000 in
theorem of_any (m t : ByteArray) (AH : Option Addr) (cH : Nat) (hs : List PairT) (AB : Option Addr) (cB : Nat) (bn : List Int) (w : World) (ht : t.size ≤ 1000000) (hhs : ∀ q ∈ hs, q.f1.size ≤ 1000000)
    (hq : ∀ W g, Below w.heap.size w W → w.heap.size ≤ g → ReqIn W g AH cH hs AB cB bn) :
    Calls Tryd.prog 10 #[.agg #[.string m, .string t, .slice AH hs.length cH, .slice AB bn.length cB]] w (OfQ w (ofP m t hs (Lib.bytesOf bn))) := by
  generalize hres : ofP m t hs (Lib.bytesOf bn) = res
  replace hres := Lib.hid hres
  have htg := target_any t ht
  have hvals := targetV_vals t.data.toList
  have hlen := targetV_len t.data.toList
  have hpath := targetV_path t.data.toList
  generalize hT : targetV t.data.toList = T at htg hvals hlen hpath
  replace hT := Lib.hid hT
  obtain ⟨path, l, te⟩ := T
  simp only at htg hvals hlen hpath
  have hRM := Lib.hid (show True from trivial)
  clear hRM
  go_enter Tryd.func10, Tryd.ntmps10
  go_wp2_with fail
  obtain ⟨hQ1, hA1, hbw1, hs1⟩ := two_blocks w (.cells #[.string m, .string t, .slice AH hs.length cH, .slice AB bn.length cB] 31) (.cells zc 26)
  refine (htg _).mono ?_
  clear htg
  rintro e W2 ⟨v1, rfl, hR, hb2⟩
  have hs2 := hb2.size
  obtain ⟨A, c, rfl, hcl, hC2, hAb⟩ := pairs_form hR
  have hQ2 : W2.heap[w.heap.size]? = _ := (hb2.block _ (lt_of_eq' hs1 (by omega))).trans hQ1
  have hA2 : W2.heap[w.heap.size + 1]? = some (.cells zc 26 (0, 0)) := (hb2.block _ (lt_of_eq' hs1 (by omega))).trans hA1
  have hbw2 : Below w.heap.size w W2 := hbw1.trans (hb2.mono hbw1.size)
  replace hAb : ∀ ad, A = some ad → 0 < l.length → w.heap.size + 2 ≤ ad.block ∧ ad.block < W2.heap.size := fun ad h1 h2 => by
    have := hAb ad h1 h2
    simpa using this
  replace hs2 : w.heap.size + 2 ≤ W2.heap.size := by simpa using hs2
  clear hQ1 hA1 hbw1 hs1 hb2 hR
  by_cases hte : te = 0
  · subst hte
    obtain ⟨hp1, hp2⟩ := hpath rfl
    clear hpath
    go_wp2_with fail
    have hbl3 : Below W2.heap.size W2 (W2.alloc (.cells zc 26)) := (Below.refl _ W2).alloc (Nat.le_refl _) _
    have hg3 := heap_alloc_new W2 (.cells zc 26)
    have hQ3 := blk_below hQ2 hbl3
    have hA3 := blk_below hA2 hbl3
    have hC3 := Kd.C_below hC2 hbl3
    have hbw3 := hbw2.trans (hbl3.mono hbw2.size)
    have hs3 : (W2.alloc (.cells zc 26)).heap.size = W2.heap.size + 1 := by simp
    have hab := about_any path W2.heap.size zc _ hp2 hp1 hg3 rfl
    obtain ⟨g, hgg⟩ : ∃ g, W2.heap.size = g := ⟨_, rfl⟩
    rw [hgg] at hab hs2 hs3
    replace hAb : ∀ ad, A = some ad → 0 < l.length → w.heap.size + 2 ≤ ad.block ∧ ad.block < g := fun ad h1 h2 => by rw [← hgg]; exact hAb ad h1 h2
    replace hgg := Lib.hid hgg
    have hAP := Lib.hid (show aboutP path = aboutP path from rfl)
    generalize hap : aboutP path = ap at hab
    replace hap := Lib.hid hap
    clear hAP
    obtain ⟨⟨ar, ok⟩, bk⟩ := ap
    simp only at hab
    rw [hgg.out]
    refine hab.mono ?_
    clear hab
    rintro e W4 ⟨rfl, hg4, hk4⟩
    rw [show zc = callV zcall (.slice none 0 0) from rfl, setBK_cells] at hg4
    have hQ4 : W4.heap[w.heap.size]? = _ := (hk4.block _ (blk_lt hQ3) (by omega)).trans hQ3
    have hA4 : W4.heap[w.heap.size + 1]? = some (.cells zc 26 (0, 0)) := (hk4.block _ (blk_lt hA3) (by omega)).trans hA3
    have hC4 := pairs_still hC3 (fun ad h1 h2 h3 => by have := hAb ad h1 h2; omega) hk4
    have hbw4 : Below w.heap.size w W4 := hbw3.trans (hk4.below (by omega) (fun k hk h => by omega))
    have hs4 := hk4.size
    rw [hs3] at hs4
    clear hbl3 hg3 hQ3 hA3 hC3 hbw3 hs3 hk4 hQ2 hA2 hC2 hbw2
    cases ok
    · have hoo := ofP_name (m := m) (hs := hs) (body := Lib.bytesOf bn) hT.out hap.out
      have HE := Lib.hid (OfQ.err (w := w) (r := res) (n := 13) (by rw [← hres.out]; exact hoo) (below_setRow' hbw4 (g := w.heap.size + 1) (by omega) zc))
      have HZ := Lib.hid (setRow_heap _ (w.heap.size + 1) zc zc _ _ hA4)
      have HA' := hA4
      go_wp2_with (refine wpList_store_row rfl 26 _ _ rfl (w.heap.size + 1) zc rfl rfl 26 zc HA' (by kernel_rfl) rfl (by kernel_rfl) ?_)
      exact bodyPost_ret (v := .tuple #[.agg zc, .int .i64 13]) (results_row_one of_ress _ _ (w.heap.size + 1) 26 zc (0, 0) _ _ rfl rfl HZ.out Tryd.underlying26 rfl call15) rfl HE.out
    · have hoo := ofP_go (m := m) (hs := hs) (body := Lib.bytesOf bn) hT.out hap.out
      rw [hres.out] at hoo
      replace hoo := Lib.hid hoo
      clear hres hT hap
      have cQ0 : W4.cell? ⟨w.heap.size, 0, none⟩ = some (.string m) := by rw [blk_cell hQ4]; rfl
      go_wp2_with fail
      have hth : Pr.route_these.f ar = some (theseP ar) := by
        unfold Pr.route_these.f theseP
        split
        · rfl
        · split <;> rfl
      have hbl5 : Below W4.heap.size W4 (W4.alloc (.cells #[.int .i64 ar, .string m, .string ⟨#[]⟩] 48)) := (Below.refl _ W4).alloc (Nat.le_refl _) _
      have hL5 := heap_alloc_new W4 (.cells #[.int .i64 ar, .string m, .string ⟨#[]⟩] 48)
      have hQ5 := blk_below hQ4 hbl5
      have hA5 := blk_below hA4 hbl5
      have hg5 := blk_below hg4 hbl5
      have hC5 := Kd.C_below hC4 hbl5
      have hbw5 := hbw4.trans (hbl5.mono hbw4.size)
      have hs5 : (W4.alloc (.cells #[.int .i64 ar, .string m, .string ⟨#[]⟩] 48)).heap.size = W4.heap.size + 1 := by simp
      have htc := Pr.route_these.calls ar (theseP ar) (W4.alloc (.cells #[.int .i64 ar, .string m, .string ⟨#[]⟩] 48)) hth
      generalize hnm : theseP ar = names at htc hoo
      replace hnm := Lib.hid hnm
      obtain ⟨L, hLL⟩ : ∃ L, W4.heap.size = L := ⟨_, rfl⟩
      rw [hLL] at hL5 hs5 hs4
      rw [hs5] at htc
      replace hLL := Lib.hid hLL
      rw [hLL.out]
      refine htc.mono ?_
      clear htc hth hbl5 hbw4 hC4 hg4 hA4 hQ4 cQ0
      rintro e W6 ⟨v0, rfl, hRN, hb6⟩
      obtain ⟨A', c', rfl, hcn, hCN⟩ := Kd.R_reads hRN
      have hnN : ∀ ad, A' = some ad → 0 < names.length → L < ad.block := fun ad h1 h2 => by
        obtain ⟨g6, cap, h3, h4, h5, _⟩ := Kd.R_form hRN h2
        rw [h1] at h3
        injection h3 with h3
        injection h3 with h3
        rw [h3]
        show L < g6
        omega
      rw [← hs5] at hb6
      have hS : OfS w W6 g L #[.string m, .string t, .slice AH hs.length cH, .slice AB bn.length cB] l A (callV (setBK zcall bk) (.slice none 0 0)) #[.int .i64 ar, .string m, .string ⟨#[]⟩] names A' :=
        ⟨hs2, by omega, blk_below hQ5 hb6, blk_below hA5 hb6, blk_below hg5 hb6, blk_below hL5 hb6, Kd.C_below hC5 hb6, fun ad h1 h2 => by have := hAb ad h1 h2; omega, hCN, hnN, hbw5.trans (hb6.mono hbw5.size)⟩
      have hnl : names.length ≤ 3 := by
        rw [← hnm.out]
        unfold theseP
        split
        · simp
        · split <;> simp
      clear hRN hCN hnN hb6 hQ5 hA5 hg5 hL5 hC5 hbw5 hs5
      go_wp2_with fail
      go_loopw [42] (fun i wr => ∃ (k : Nat) (q : ByteArray), k ≤ names.length ∧ i = .int .i64 k ∧ OfS w wr g L #[.string m, .string t, .slice AH hs.length cH, .slice AB bn.length cB] l A (callV (setBK zcall bk) (.slice none 0 0)) #[.int .i64 ar, .string m, .string q] names A' ∧ Hid (qGo l ⟨#[]⟩ names = qGo l q (names.drop k))) (fun i _ => names.length - (intOf i).toNat)
      case atStart => exact ⟨0, ⟨#[]⟩, Nat.zero_le _, rfl, hS, Lib.hid (by simp)⟩
      case round =>
        obtain ⟨k, q, hk, rfl, hS, H⟩ := hrel
        have hki : (k : Int) ≤ (names.length : Int) := by omega
        by_cases hlt : k < names.length
        · have hlti : (k : Int) < (names.length : Int) := by omega
          obtain ⟨nm, hx, hxd⟩ := next_elem names k hlt
          obtain ⟨ad, rfl, hcell⟩ := name_cell hS.hN hx
          have hf := find_any nm A c l hlen wr hS.hC hcl
          rw [hxd] at H
          have HQ := Lib.hid (show qGo l q (nm :: names.drop (k + 1)) = if (findP nm l).2 = true then (if q = ⟨#[]⟩ then qGo l nm (names.drop (k + 1)) else none) else qGo l q (names.drop (k + 1)) from rfl)
          generalize findP nm l = fr at hf HQ
          obtain ⟨s, is⟩ := fr
          clear hx hxd
          go_wp2_with fail
          refine hf.mono ?_
          clear hf
          rintro e w1 ⟨rfl, hb1⟩
          replace hS := hS.below hb1
          clear hb1 hcell
          cases is
          · have H' := Lib.hid (H.out.trans (HQ.out.trans (if_neg (by simp))))
            clear H HQ
            go_wp2
            go_roundw
            case rel => exact ⟨k + 1, q, by omega, by go_num, hS, H'⟩
            case measure => simp [intOf]; omega
          · have cq : w1.cell? ⟨L, 2, none⟩ = some (.string q) := by rw [blk_cell hS.hL]; rfl
            have fq := blk_frozen hS.hL 2
            by_cases hqe : q = ⟨#[]⟩
            · have H' := Lib.hid (H.out.trans (HQ.out.trans ((if_pos rfl).trans (if_pos hqe))))
              obtain ⟨e1, e2⟩ := empty_eq q hqe
              have e3 : (q.toList != ([] : List UInt8)) = false := by rw [e1]; rfl
              have hS' := hS.setL 2 (.string nm)
              clear H HQ hS hqe
              go_wp2
              go_roundw
              case rel => exact ⟨k + 1, nm, by omega, by go_num, hS', H'⟩
              case measure => simp [intOf]; omega
            · have H' := Lib.hid (H.out.trans (HQ.out.trans ((if_pos rfl).trans (if_neg hqe))))
              obtain ⟨e1, e2⟩ := empty_ne q hqe
              have e3 : (q.toList != ([] : List UInt8)) = true := by rw [bne_iff_ne]; exact e1
              have hA9 := hS.hA
              have hb9 := hS.hb
              clear H HQ hqe
              have HE := Lib.hid (OfQ.err (w := w) (r := res) (n := 2) (by rw [hoo.out, H'.out]; rfl) (below_setRow' hb9 (g := w.heap.size + 1) (by omega) zc))
              have HZ := Lib.hid (setRow_heap _ (w.heap.size + 1) zc zc _ _ hA9)
              have HA' := hA9
              go_wp2_with (refine wpList_store_row rfl 26 _ _ rfl (w.heap.size + 1) zc rfl rfl 26 zc HA' (by kernel_rfl) rfl (by kernel_rfl) ?_)
              exact bodyPost_ret (v := .tuple #[.agg zc, .int .i64 2]) (results_row_one of_ress _ _ (w.heap.size + 1) 26 zc (0, 0) _ _ rfl rfl HZ.out Tryd.underlying26 rfl call15) rfl HE.out
        · obtain rfl : k = names.length := by omega
          have H' := Lib.hid (H.out.trans (show qGo l q (names.drop names.length) = some q by rw [List.drop_of_length_le (Nat.le_refl _)]; rfl))
          clear H
          have hnlt : ¬ ((names.length : Int) < (names.length : Int)) := by omega
          go_upto_region 18 with (fail)
          refine wp_region_held_drew (S := fun W => W.heap[L]? = some (.cells #[.int .i64 ar, .string m, .string q] 48 (0, 0))) (by kernel_rfl) hS.hL (fun hHeld => ?_)
          replace hS : OfS w wr.drew g L #[.string m, .string t, .slice AH hs.length cH, .slice AB bn.length cB] l A (callV (setBK zcall bk) (.slice none 0 0)) #[.int .i64 ar, .string m, .string q] names A' := hS.below ((Below.refl _ wr).drew)
          refine wpAnyH_take (i := 1) (oi := _) (v := .agg #[.int .i64 ar, .string m, .string q]) rfl (by kernel_rfl) (by kernel_rfl) (by kernel_rfl) (fun _ _ _ h => h) (yields_rowR (by rfl) 48 _ rfl L rfl 48 _ (0, 0) _ (fun w hs => hs) Tryd.underlying48 rfl line3) hHeld ?_
          try simp only [List.getElem_toArray, List.getElem_cons_succ, List.getElem_cons_zero, Act.put, List.setIfInBounds_toArray, List.set_cons_zero, List.set_cons_succ]
          clear hHeld
          refine wpAnyH_ready (rs := [0]) (by kernel_rfl) (by simp) ?_
          refine AllReadyH.cons (o := _) rfl (fun K hK => ?_) AllReadyH.nil
          go_simp
          refine (kinds_any _).mono ?_
          rintro e w6 ⟨ks, rfl, hM, hks1, hks2, hb6⟩
          replace hS := hS.below hb6
          clear hb6
          have hlk := run_lookL w6 wr.heap.size ks (ar, m, q) hM hks1 hks2
          unfold lineV at hlk
          clear hM hks1 hks2
          simp only at hlk
          go_wp2_with fail
          refine hK.out _ _ hS.hL (fun hHeld => ?_)
          clear hK K
          try simp only [List.getElem_toArray, List.getElem_cons_succ, List.getElem_cons_zero, Act.put, List.setIfInBounds_toArray, List.set_cons_zero, List.set_cons_succ]
          have hoo2 := Lib.hid (hoo.out.trans (congrArg _ H'.out))
          clear H' hoo
          cases hlv : lookK (ar, m, q) with
          | none =>
            rw [hlv] at hlk
            simp only at hlk
            replace hlv := Lib.hid hlv
            refine wpAnyH_ready (rs := [2]) (by kernel_rfl) (by simp) ?_
            refine AllReadyH.cons (o := _) rfl (fun K hK => ?_) AllReadyH.nil
            go_simp
            refine hK.out _ _ hS.hL (fun hHeld => ?_)
            clear hK K
            try simp only [List.getElem_toArray, List.getElem_cons_succ, List.getElem_cons_zero, Act.put, List.setIfInBounds_toArray, List.set_cons_zero, List.set_cons_succ]
            refine wpAnyH_take (i := 3) (oi := _) (v := ?_) rfl (by kernel_rfl) (by kernel_rfl) (by kernel_rfl) (fun _ _ _ h => h) (Or.inl ⟨by rfl, ?_⟩) hHeld ?_
            rotate_left
            · intro w hSw
              go_simp
              try with_reducible rfl
            try simp only [List.getElem_toArray, List.getElem_cons_succ, List.getElem_cons_zero, Act.put, List.setIfInBounds_toArray, List.set_cons_zero, List.set_cons_succ]
            refine wpAnyH_take (i := 4) (oi := _) (v := ?_) rfl (by kernel_rfl) (by kernel_rfl) (by kernel_rfl) (fun _ _ _ h => h) (Or.inl ⟨by rfl, ?_⟩) hHeld ?_
            rotate_left
            · intro w hSw
              go_simp
              try with_reducible rfl
            try simp only [List.getElem_toArray, List.getElem_cons_succ, List.getElem_cons_zero, Act.put, List.setIfInBounds_toArray, List.set_cons_zero, List.set_cons_succ]
            refine wpAnyH_take (i := 5) (oi := _) (v := ?_) rfl (by kernel_rfl) (by kernel_rfl) (by kernel_rfl) (fun _ _ _ h => h) (Or.inl ⟨by rfl, ?_⟩) hHeld ?_
            rotate_left
            · intro w hSw
              go_simp
              try with_reducible rfl
            try simp only [List.getElem_toArray, List.getElem_cons_succ, List.getElem_cons_zero, Act.put, List.setIfInBounds_toArray, List.set_cons_zero, List.set_cons_succ]
            refine wpAnyH_take (i := 6) (oi := _) (v := ?_) rfl (by kernel_rfl) (by kernel_rfl) (by kernel_rfl) (fun _ _ _ h => h) (Or.inl ⟨by rfl, ?_⟩) hHeld ?_
            rotate_left
            · intro w hSw
              go_simp
              try with_reducible rfl
            try simp only [List.getElem_toArray, List.getElem_cons_succ, List.getElem_cons_zero, Act.put, List.setIfInBounds_toArray, List.set_cons_zero, List.set_cons_succ]
            refine wpAnyH_take (i := 7) (oi := _) (v := ?_) rfl (by kernel_rfl) (by kernel_rfl) (by kernel_rfl) (fun _ _ _ h => h) (Or.inl ⟨by rfl, ?_⟩) hHeld ?_
            rotate_left
            · intro w hSw
              go_simp
              try with_reducible rfl
            try simp only [List.getElem_toArray, List.getElem_cons_succ, List.getElem_cons_zero, Act.put, List.setIfInBounds_toArray, List.set_cons_zero, List.set_cons_succ]
            refine wpAnyH_done (by kernel_rfl) ?_ _
            have hA9 := hS.hA
            have hb9 := hS.hb
            have hs9 := hb9.size
            clear hlk hHeld
            have HE := Lib.hid (OfQ.err (w := w) (r := res) (n := 390) (by rw [hoo2.out]; simp only [ofGo, hlv.out]) (below_setRow' hb9 (g := w.heap.size + 1) (by omega) zc))
            have HZ := Lib.hid (setRow_heap _ (w.heap.size + 1) zc zc _ _ hA9)
            have HA' := hA9
            go_wp2_with (refine wpList_store_row rfl 26 _ _ rfl (w.heap.size + 1) zc rfl rfl 26 zc HA' (by kernel_rfl) rfl (by kernel_rfl) ?_)
            exact bodyPost_ret (v := .tuple #[.agg zc, .int .i64 390]) (results_row_one of_ress _ _ (w.heap.size + 1) 26 zc (0, 0) _ _ rfl rfl HZ.out Tryd.underlying26 rfl call15) rfl HE.out
          | some n =>
            have hrg := lookK_range hlv
            rw [hlv] at hlk
            simp only at hlk
            replace hlv := Lib.hid hlv
            refine wpAnyH_ready (rs := [2]) (by kernel_rfl) (by simp) ?_
            refine AllReadyH.cons (o := _) rfl (fun K hK => ?_) AllReadyH.nil
            go_simp
            refine hK.out _ _ hS.hL (fun hHeld => ?_)
            clear hK K
            try simp only [List.getElem_toArray, List.getElem_cons_succ, List.getElem_cons_zero, Act.put, List.setIfInBounds_toArray, List.set_cons_zero, List.set_cons_succ]
            refine wpAnyH_take (i := 3) (oi := _) (v := ?_) rfl (by kernel_rfl) (by kernel_rfl) (by kernel_rfl) (fun _ _ _ h => h) (Or.inl ⟨by rfl, ?_⟩) hHeld ?_
            rotate_left
            · intro w hSw
              go_simp
              try with_reducible rfl
            try simp only [List.getElem_toArray, List.getElem_cons_succ, List.getElem_cons_zero, Act.put, List.setIfInBounds_toArray, List.set_cons_zero, List.set_cons_succ]
            refine wpAnyH_take (i := 4) (oi := _) (v := ?_) rfl (by kernel_rfl) (by kernel_rfl) (by kernel_rfl) (fun _ _ _ h => h) (Or.inl ⟨by rfl, ?_⟩) hHeld ?_
            rotate_left
            · intro w hSw
              go_simp
              try with_reducible rfl
            try simp only [List.getElem_toArray, List.getElem_cons_succ, List.getElem_cons_zero, Act.put, List.setIfInBounds_toArray, List.set_cons_zero, List.set_cons_succ]
            refine wpAnyH_take (i := 5) (oi := _) (v := ?_) rfl (by kernel_rfl) (by kernel_rfl) (by kernel_rfl) (fun _ _ _ h => h) (Or.inl ⟨by rfl, ?_⟩) hHeld ?_
            rotate_left
            · intro w hSw
              go_simp
              try with_reducible rfl
            try simp only [List.getElem_toArray, List.getElem_cons_succ, List.getElem_cons_zero, Act.put, List.setIfInBounds_toArray, List.set_cons_zero, List.set_cons_succ]
            refine wpAnyH_take (i := 6) (oi := _) (v := ?_) rfl (by kernel_rfl) (by kernel_rfl) (by kernel_rfl) (fun _ _ _ h => h) (Or.inl ⟨by rfl, ?_⟩) hHeld ?_
            rotate_left
            · intro w hSw
              go_simp
              try with_reducible rfl
            try simp only [List.getElem_toArray, List.getElem_cons_succ, List.getElem_cons_zero, Act.put, List.setIfInBounds_toArray, List.set_cons_zero, List.set_cons_succ]
            refine wpAnyH_take (i := 7) (oi := _) (v := ?_) rfl (by kernel_rfl) (by kernel_rfl) (by kernel_rfl) (fun _ _ _ h => h) (Or.inl ⟨by rfl, ?_⟩) hHeld ?_
            rotate_left
            · intro w hSw
              go_simp
              try with_reducible rfl
            try simp only [List.getElem_toArray, List.getElem_cons_succ, List.getElem_cons_zero, Act.put, List.setIfInBounds_toArray, List.set_cons_zero, List.set_cons_succ]
            refine wpAnyH_done (by kernel_rfl) ?_ _
            have c0 : w6.cell? ⟨g, 0, none⟩ = some (.int .i64 (setBK zcall bk).kind) := by rw [blk_cell hS.hg]; rfl
            have f0 := blk_frozen hS.hg 0
            have hS2 : OfS w (w6.setCell ⟨g, 0, none⟩ (.int .i64 n)) g L #[.string m, .string t, .slice AH hs.length cH, .slice AB bn.length cB] l A (callV { setBK zcall bk with kind := n } (.slice none 0 0)) #[.int .i64 ar, .string m, .string q] names A' := hS.setG 0 (.int .i64 n)
            have hbs := beside_any { setBK zcall bk with kind := n } g m t AH cH hs AB cB bn A c l _ hrg.1 hrg.2 hS2.hg hlen hvals hS2.hC hcl (fun ad h1 h2 => by
              have h3 := hS2.nC ad h1 h2
              have h4 := blk_lt hS2.hg
              exact ⟨by omega, by omega⟩) (hq _ g hS2.hb (by have := hS2.gn; omega)) hhs
            have r0 : (w6.setCell ⟨g, 0, none⟩ (.int .i64 n)).cell? ⟨w.heap.size, 0, none⟩ = some (.string m) := by rw [blk_cell hS2.hQ]; rfl
            have r1 : (w6.setCell ⟨g, 0, none⟩ (.int .i64 n)).cell? ⟨w.heap.size, 1, none⟩ = some (.string t) := by rw [blk_cell hS2.hQ]; rfl
            have r2 : (w6.setCell ⟨g, 0, none⟩ (.int .i64 n)).cell? ⟨w.heap.size, 2, none⟩ = some (.slice AH hs.length cH) := by rw [blk_cell hS2.hQ]; rfl
            have r3 : (w6.setCell ⟨g, 0, none⟩ (.int .i64 n)).cell? ⟨w.heap.size, 3, none⟩ = some (.slice AB bn.length cB) := by rw [blk_cell hS2.hQ]; rfl
            have hgo := Lib.hid (hoo2.out.trans (show ofGo m hs l (Lib.bytesOf bn) ar bk (some q) = if (besideP { setBK zcall bk with kind := n } l hs).2 = true then (((besideP { setBK zcall bk with kind := n } l hs).1, bodyK n (Lib.bytesOf bn)), 0) else ((zcall, []), 2) by simp only [ofGo, hlv.out]))
            have hkn : ({ setBK zcall bk with kind := n } : CallP).kind = n := rfl
            rw [hkn] at hbs
            generalize besideP { setBK zcall bk with kind := n } l hs = br at hbs hgo
            obtain ⟨cf, bf⟩ := br
            clear hlk hHeld hS hkn
            go_wp2_with fail
            refine hbs.mono ?_
            clear hbs r0 r1 r2 r3 c0 f0
            rintro e w9 ⟨bv, rfl, hg9, hown9, hk9⟩
            have hs6 := hk9.size
            have hgn := hS2.gn
            have hs7 := blk_lt hS2.hA
            have hA9 : w9.heap[w.heap.size + 1]? = some (.cells zc 26 (0, 0)) := (hk9.block _ (blk_lt hS2.hA) (by omega)).trans hS2.hA
            have hb9 : Below w.heap.size w w9 := hS2.hb.trans (hk9.below (by omega) (fun k hk e => by omega))
            simp only at hown9 hg9
            cases bf
            · clear hown9
              have HE := Lib.hid (OfQ.err (w := w) (r := res) (n := 2) (by rw [hgo.out]; rfl) (below_setRow' hb9 (g := w.heap.size + 1) (by omega) zc))
              have HZ := Lib.hid (setRow_heap _ (w.heap.size + 1) zc zc _ _ hA9)
              have HA' := hA9
              go_wp2_with (refine wpList_store_row rfl 26 _ _ rfl (w.heap.size + 1) zc rfl rfl 26 zc HA' (by kernel_rfl) rfl (by kernel_rfl) ?_)
              exact bodyPost_ret (v := .tuple #[.agg zc, .int .i64 2]) (results_row_one of_ress _ _ (w.heap.size + 1) 26 zc (0, 0) _ _ rfl rfl HZ.out Tryd.underlying26 rfl call15) rfl HE.out
            · obtain ⟨Ab, cb, hbv, hcb, -⟩ := hown9.form
              have HA9 := hA9
              have hz9 := setRow_heap w9 (w.heap.size + 1) zc (callV cf bv) _ _ hA9
              have hown10 : OwnB (w9.setRow (w.heap.size + 1) (callV cf bv)) w.heap.size 5 bv (bodyK n (Lib.bytesOf bn)) := OwnB.le (hown9.keep fun k hk => setRow_other w9 _ k _ (by have := (hown9.lt k hk).1; omega)) (by omega)
              have HE : OfQ w res (.returned (.tuple #[.agg (callV cf bv), .int .i64 0])) (w9.setRow (w.heap.size + 1) (callV cf bv)) := ⟨bv, by rw [hgo.out]; rfl, by rw [hgo.out]; exact hown10, below_setRow' hb9 (by omega) _⟩
              have hone : ((callV cf bv).all (·.oneCell')) = true := by rw [hbv]; simp [callV, Value.oneCell']
              replace HE := Lib.hid HE
              replace hz9 := Lib.hid hz9
              clear hown9 hown10 hbv
              go_wp2_with (first | (refine wpList_load_row rfl 26 _ rfl g rfl 26 (callV cf bv) (0, 0) _ hg9 Tryd.underlying26 rfl call15 ?_) | (refine wpList_store_row rfl 26 _ _ rfl (w.heap.size + 1) (callV cf bv) rfl rfl 26 zc HA9 (by kernel_rfl) rfl hone ?_))
              exact bodyPost_ret (v := .tuple #[.agg (callV cf bv), .int .i64 0]) (results_row_one of_ress _ _ (w.heap.size + 1) 26 (callV cf bv) (0, 0) _ _ rfl rfl hz9.out Tryd.underlying26 rfl call15) rfl HE.out
  · clear hpath
    have hte' : (te == 0) = false := by simpa using hte
    have HE := Lib.hid (OfQ.err (w := w) (r := res) (n := te) (by rw [← hres.out]; simp only [ofP, hT.out]; rw [if_pos hte]) (below_setRow' hbw2 (g := w.heap.size + 1) (by omega) zc))
    have HZ := Lib.hid (setRow_heap _ (w.heap.size + 1) zc zc _ _ hA2)
    have HA' := hA2
    go_wp2_with (refine wpList_store_row rfl 26 _ _ rfl (w.heap.size + 1) zc rfl rfl 26 zc HA' (by kernel_rfl) rfl (by kernel_rfl) ?_)
    exact bodyPost_ret (v := .tuple #[.agg zc, .int .i64 te]) (results_row_one of_ress _ _ (w.heap.size + 1) 26 zc (0, 0) _ _ rfl rfl HZ.out Tryd.underlying26 rfl call15) rfl HE.out
end Go.Proofs.YtehibiplodjofaaDoor
end
section
/- route.Of in the print's form. -/
namespace Go.Proofs.YtehibiplodjofaaDoor.Pr
open Go.RowKit Go.Proofs.YtehibiplodjofaaDoorW.PrintWords Go.Proofs.YtehibiplodjofaaDoorW.PrintLast Go.Proofs.YtehibiplodjofaaDoorW.PrintMore
set_option linter.unusedVariables false
set_option linter.unusedSimpArgs false
def numsL (l : List UInt8) : List Int := l.map fun b => (b.toNat : Int)
theorem cells_of (l : List UInt8) : Lib.byteCells l = (numsL l).map (Value.int .u8) := by unfold Lib.byteCells numsL; rw [List.map_map]; rfl
theorem cells_flat : ∀ l : List UInt8, (l.flatMap fun b => [Value.int .u8 (b.toNat : Int)]) = Lib.byteCells l
  | [] => rfl
  | c :: r => by
    rw [List.flatMap_cons, cells_flat r]
    rfl
theorem nums_mem {l : List UInt8} : ∀ x ∈ numsL l, 0 ≤ x ∧ x ≤ 255 := by
  intro x hx
  obtain ⟨b, _, rfl⟩ := List.mem_map.1 hx
  have := b.toNat_lt
  omega
theorem nums_len (t : List UInt8) : (numsL t).length = t.length := by simp [numsL]
theorem nums_of (t : List UInt8) : Lib.bytesOf (numsL t) = t := by
  unfold Lib.bytesOf numsL
  rw [List.map_map]
  conv => rhs; rw [← List.map_id t]
  apply List.map_congr_left
  intro b _
  simp
theorem R_bytes {w : World} {base : Nat} {v : Value} {l : List UInt8} (h : w.ownsRow base 5 1 v l.length (Lib.byteCells l)) : Kd.R (Kd.int .u8) 5 w base (fun _ => True) v (numsL l) :=
  R_of_own (d := Kd.int .u8) (fun b : UInt8 => (b.toNat : Int)) (fun b => [Value.int .u8 (b.toNat : Int)]) (fun _ => rfl) l (fun _ _ => rfl) (by
    rw [cells_flat]
    exact h)
def isBytes (l : List Int) : Bool := l.all fun n => decide (0 ≤ n) && decide (n < 256)
theorem isBytes_nums (l : List UInt8) : isBytes (numsL l) = true := by
  unfold isBytes
  rw [List.all_eq_true]
  intro x hx
  have := nums_mem x hx
  simp
  omega
theorem nums_bytes {l : List Int} (h : isBytes l = true) : numsL (Lib.bytesOf l) = l := by
  unfold isBytes at h
  rw [List.all_eq_true] at h
  unfold numsL Lib.bytesOf
  rw [List.map_map]
  conv => rhs; rw [← List.map_id l]
  apply List.map_congr_left
  intro n hn
  have := h n hn
  simp only [Bool.and_eq_true, decide_eq_true_eq] at this
  simp only [Function.comp, id_eq, UInt8.toNat_ofNat']
  omega
theorem src_nums {w : World} {A0 : Option Addr} {c0 : Nat} {l0 : List Int} (hr0 : Kd.C (Kd.int .u8) w A0 l0.length l0) (hc0 : l0.length ≤ c0) (hs : isBytes l0 = true) : Go.Src Tryd.prog 1 24 (.slice A0 l0.length c0) (Lib.bytesOf l0).length (Lib.byteCells (Lib.bytesOf l0)) w := by
  have hl : (Lib.bytesOf l0).length = l0.length := Lib.bytesOf_length l0
  by_cases hpos : 0 < l0.length
  · obtain ⟨ad, rfl, hcl⟩ := hr0.2.2 hpos
    have hcell : ∀ j n, l0[j]? = some n → w.cell? (ad.add j) = some (.int .u8 n) := fun j n hj => by
      obtain ⟨c, _, hc, hcc⟩ := hcl j n hj
      have hc' : c = [Value.int .u8 n] := hc
      subst hc'
      have := hcc 0 (.int .u8 n) rfl
      simpa [Kd.int, Kd.scalar] using this
    have hsp : ad.spot = none := by
      have h0 := hcell 0 l0[0] (List.getElem?_eq_getElem hpos)
      cases ad with
      | mk b o s =>
        cases s with
        | none => rfl
        | some z =>
          simp only [World.cell?, Addr.add] at h0
          split at h0 <;> simp at h0
    obtain ⟨b, o, sp⟩ := ad
    simp only at hsp
    subst hsp
    refine srcG_of (P := Tryd.prog) (tx := 24) Tryd.underlying24 (show Src w (.slice (some ⟨b, o, none⟩) l0.length c0) (Lib.byteCells (Lib.bytesOf l0)) from .inr ⟨b, o, c0, by rw [bc_len, hl], by rw [bc_len, hl]; exact hc0, fun j x hj => ?_⟩)
    rw [cells_of, nums_bytes hs, List.getElem?_map] at hj
    obtain ⟨n, hn, rfl⟩ := Option.map_eq_some_iff.1 hj
    have := hcell j n hn
    cases j <;> simpa [Addr.add] using this
  · have h0 : l0 = [] := List.length_eq_zero_iff.1 (by omega)
    subst h0
    cases A0 with
    | none => exact Src.ofNil w Tryd.underlying24 c0
    | some a => exact Src.ofSlice w Tryd.underlying24 a 0 c0 [] rfl (by intro j u hj; simp at hj) (by intro u hu; cases hu)
theorem req_in {w : World} {AH : Option Addr} {cH : Nat} {hs : List PairT} {AB : Option Addr} {cB : Nat} {bn : List Int} (hH : Kd.C k41 w AH hs.length hs) (hcH : hs.length ≤ cH) (hB : Kd.C (Kd.int .u8) w AB bn.length bn) (hcB : bn.length ≤ cB) (h1 : hs.length ≤ 1000) (h2 : bn.length ≤ 1000000) (h3 : isBytes bn = true) :
    ∀ W g, Below w.heap.size w W → w.heap.size ≤ g → ReqIn W g AH cH hs AB cB bn := fun W g hb hg => by
  have bH : ∀ ad, AH = some ad → 0 < hs.length → ¬ ad.block = g := fun ad e h => by
    subst e
    have := Kd.C_lt hH h (by decide)
    omega
  have bB : ∀ ad, AB = some ad → 0 < bn.length → ¬ ad.block = g := fun ad e h => by
    subst e
    have := Kd.C_lt hB h (by decide)
    omega
  have cH' := Kd.C_below hH hb
  have cB' := Kd.C_below hB hb
  have kB : ∀ W', Keeps (fun k => k = g) W W' → Kd.C (Kd.int .u8) W' AB bn.length bn := fun W' hk => Kd.C_foot_neS (S := fun k => k = g) (fun {W W' x cs} hx => hx) cB' bB W' ⟨hk.size, hk.block⟩
  exact ⟨h1, hcH, hcB, h2, fun W' hk => pairs_still cH' bH hk, kB, fun W' hk => src_nums (kB W' hk) hcB h3, Lib.bytesOf_length bn⟩
def route_Of.f (a0_0 a0_1 : ByteArray) (l0_2 : List PairT) (l0_3 : List Int) : Option (Int × ByteArray × ByteArray × ByteArray × ByteArray × Int × ByteArray × ByteArray × ByteArray × ByteArray × Int × Bool × Int × Int × List Int × Int) :=
  if (decide (a0_1.size ≤ 1000000) && (decide (l0_2.length ≤ 1000) && (l0_2.all (fun q => decide (q.f1.size ≤ 1000000)) && (isBytes l0_3 && decide (l0_3.length ≤ 1000000))))) = true then
    (let r := ofP a0_0 a0_1 l0_2 (Lib.bytesOf l0_3)
     some (r.1.1.kind, r.1.1.bucket, r.1.1.key, r.1.1.version, r.1.1.upload, r.1.1.part, r.1.1.pre, r.1.1.delim, r.1.1.aft, r.1.1.behind, r.1.1.most, r.1.1.ranged, r.1.1.frm, r.1.1.til, numsL r.1.2, r.2))
  else none
end Go.Proofs.YtehibiplodjofaaDoor.Pr
end
section
/- stowagelaw29.asked, by its walk, and in the print's form. -/
namespace Go.Proofs.YtehibiplodjofaaDoor
open Go.RowKit Go.Proofs.YtehibiplodjofaaDoorW.PrintWords Go.Proofs.YtehibiplodjofaaDoorW.PrintLast Go.Proofs.YtehibiplodjofaaDoorW.PrintMore
set_option linter.unusedVariables false
set_option linter.unusedSimpArgs false
def hsA (b : ByteArray) : List PairT := ⟨(⟨#[104, 111, 115, 116]⟩ : ByteArray), (⟨#[120]⟩ : ByteArray)⟩ :: (if b = ⟨#[]⟩ then [] else [⟨(⟨#[114, 97, 110, 103, 101]⟩ : ByteArray), b⟩])
def pairV (p : PairT) : List Value := [.string p.f0, .string p.f1]
theorem pairs_own {w : World} {base : Nat} {v : Value} (l : List PairT) (h : w.ownsRow base 41 2 v l.length (l.flatMap pairV)) : ∃ A c, v = .slice A l.length c ∧ l.length ≤ c ∧ Kd.C Pr.k41 w A l.length l := by
  have hR : Kd.R Pr.k41 41 w base (fun _ => True) v l := by
    have := Pr.R_of_own (d := Pr.k41) (fun p : PairT => p) pairV (fun _ => rfl) l (fun ok p => Pr.k41_mkM _ _ _ p) (by exact h)
    rwa [List.map_id'] at this
  obtain ⟨A, c, h1, h2, h3⟩ := Kd.R_reads hR
  exact ⟨A, c, h1, h2, h3⟩
theorem nums_cells {w : World} {b n : Nat} {l : List UInt8} (hl : l.length = n) (hn : n ≤ 1000000) (h : ∀ k, k < n → w.cell? ⟨b, k, none⟩ = some (.int .u8 (l[k]?.getD 0).toNat)) : Kd.C (Kd.int .u8) w (some ⟨b, 0, none⟩) (Pr.numsL l).length (Pr.numsL l) := by
  have hL : (Pr.numsL l).length = n := by rw [Pr.nums_len, hl]
  refine ⟨rfl, by omega, fun _ => ⟨_, rfl, fun j p hj => ⟨[.int .u8 p], rfl, rfl, fun i u hu => ?_⟩⟩⟩
  have hjl := (List.getElem?_eq_some_iff.1 hj).1
  rcases i with _ | i
  · cases hu
    have hc := h j (by omega)
    have hj' : (l[j]?.getD 0).toNat = (p : Int) := by
      unfold Pr.numsL at hj
      rw [List.getElem?_map] at hj
      obtain ⟨x, hx, rfl⟩ := Option.map_eq_some_iff.1 hj
      rw [hx]
      rfl
    rw [hj'] at hc
    cases j <;> simpa [Kd.int, Kd.scalar, Addr.add] using hc
  · simp at hu
theorem asked_ress : Tryd.f15.results = #[.cell 8 26, .tmp 9] := by kernel_rfl
theorem of_lit (m t : ByteArray) (hs : List PairT) (A : Option Addr) (c : Nat) (bd : ByteArray) (b c3 : Nat) (W : World) (ht : t.size ≤ 1000000) (hl : hs.length ≤ 1000) (hv : ∀ q ∈ hs, q.f1.size ≤ 1000000) (hC : Kd.C Pr.k41 W A hs.length hs) (hc : hs.length ≤ c)
    (hb : ∀ k, k < bd.size → W.cell? ⟨b, k, none⟩ = some (.int .u8 (bd.data.toList[k]?.getD 0).toNat)) (hbd : bd.size ≤ 1000000) (hc3 : bd.size ≤ c3) :
    Calls Tryd.prog 10 #[.agg #[.string m, .string t, .slice A hs.length c, .slice (some ⟨b, 0, none⟩) bd.size c3]] W (OfQ W (ofP m t hs bd.data.toList)) := by
  have hn := nums_cells (l := bd.data.toList) (bs_len bd).symm hbd hb
  have hln : (Pr.numsL bd.data.toList).length = bd.size := by rw [Pr.nums_len, ← bs_len]
  have := of_any m t A c hs (some ⟨b, 0, none⟩) c3 (Pr.numsL bd.data.toList) W ht hv (Pr.req_in hC hc hn (by rw [hln]; exact hc3) hl (by rw [hln]; exact hbd) (Pr.isBytes_nums _))
  rw [hln, Pr.nums_of] at this
  exact this
set_option maxHeartbeats 4000000 in
set_option maxRecDepth 10000 in
theorem asked_any (m t by_ bd : ByteArray) (w : World) (ht : t.size ≤ 1000000) (hbd : bd.size ≤ 1000000) (hby : by_.size ≤ 1000000) :
    Calls Tryd.prog 15 #[.string m, .string t, .string by_, .string bd] w (OfQ w (ofP m t (hsA by_) bd.data.toList)) := by
  obtain ⟨w3, c3, hcv, hcc, hb3, hsz3, hcell3⟩ := conv_bytes (P := Tryd.prog) ((w.alloc (.cells zc 26)).alloc (.cells #[.string ⟨#[104, 111, 115, 116]⟩, .string ⟨#[120]⟩] 41)) 9 24 5 bd Tryd.underlying9 Tryd.underlying24 Tryd.underlying5
  obtain ⟨hZ2, hP2, hbw2, hs2⟩ := two_blocks w (.cells zc 26) (.cells #[.string ⟨#[104, 111, 115, 116]⟩, .string ⟨#[120]⟩] 41)
  have ho2 : ((w.alloc (.cells zc 26)).alloc (.cells #[.string ⟨#[104, 111, 115, 116]⟩, .string ⟨#[120]⟩] 41)).ownsRow (w.heap.size + 1) 41 2 (.slice (some ⟨w.heap.size + 1, 0, none⟩) 1 1) 1 [.string ⟨#[104, 111, 115, 116]⟩, .string ⟨#[120]⟩] := by
    have h := World.ownsRow_lit (base := w.heap.size + 1) (e := 41) (size := 2) (w.alloc (.cells zc 26)) #[.string ⟨#[104, 111, 115, 116]⟩, .string ⟨#[120]⟩] 1 (by simp) (by decide) rfl
    simpa using h
  have hZ3 := blk_below hZ2 hb3
  have hbw3 := hbw2.trans (hb3.mono hbw2.size)
  have ho3 := ownsRow_below ho2 hb3
  have hs3 : w.heap.size + 2 < w3.heap.size := by rw [← hs2]; exact hsz3
  rw [hs2] at hcell3
  have hb4 : Below w3.heap.size w3 (w3.alloc (.cells #[.string m, .string t, .slice (some ⟨w.heap.size + 1, 0, none⟩) 1 1, .slice (some ⟨w.heap.size + 1 + 1, 0, none⟩) bd.size c3] 31)) := (Below.refl _ w3).alloc (Nat.le_refl _) _
  have hG4 := heap_alloc_new w3 (.cells #[.string m, .string t, .slice (some ⟨w.heap.size + 1, 0, none⟩) 1 1, .slice (some ⟨w.heap.size + 1 + 1, 0, none⟩) bd.size c3] 31)
  have hs4 : (w3.alloc (.cells #[.string m, .string t, .slice (some ⟨w.heap.size + 1, 0, none⟩) 1 1, .slice (some ⟨w.heap.size + 1 + 1, 0, none⟩) bd.size c3] 31)).heap.size = w3.heap.size + 1 := by simp
  unfold zc at hcv
  by_cases hbe : by_ = ⟨#[]⟩
  · obtain ⟨e1, e2⟩ := empty_eq by_ hbe
    have e3 : (by_.toList != ([] : List UInt8)) = false := by rw [e1]; rfl
    have hh : hsA by_ = [⟨⟨#[104, 111, 115, 116]⟩, ⟨#[120]⟩⟩] := by unfold hsA; rw [if_pos hbe]
    rw [hh]
    obtain ⟨A, c, hA, hc, hC⟩ := pairs_own [⟨⟨#[104, 111, 115, 116]⟩, ⟨#[120]⟩⟩] (ownsRow_below ho3 hb4)
    cases hA
    have hof : Calls Tryd.prog 10 #[.agg #[.string m, .string t, .slice (some ⟨w.heap.size + 1, 0, none⟩) 1 1, .slice (some ⟨w.heap.size + 1 + 1, 0, none⟩) bd.size c3]] _ _ := of_lit m t [⟨⟨#[104, 111, 115, 116]⟩, ⟨#[120]⟩⟩] _ 1 bd (w.heap.size + 2) c3 _ ht (by decide) (by intro q hq; simp at hq; rw [hq]; decide) hC hc (fun k hk => below_cell hb4 (hcell3 k hk)) hbd hcc
    have hZ4 := blk_below hZ3 hb4
    have hbw4 := hbw3.trans (hb4.mono hbw3.size)
    generalize ofP m t [⟨⟨#[104, 111, 115, 116]⟩, ⟨#[120]⟩⟩] bd.data.toList = r at hof ⊢
    obtain ⟨⟨cf, bo⟩, en⟩ := r
    clear hbe hh hC hc hcell3 ho3 ho2 hZ3 hZ2 hP2 hb3 hbw3 hbw2 hs2 hsz3 hb4 hs4
    go_enter Tryd.func15, Tryd.ntmps15
    go_wp2_with (refine wpList_load_row rfl 31 _ rfl w3.heap.size rfl 31 _ (0, 0) _ hG4 Tryd.underlying31 rfl (by kernel_rfl) ?_)
    refine hof.mono ?_
    clear hof hcv hG4
    rintro e w5 ⟨bv, rfl, hown, hb5⟩
    have hZ5 := blk_below hZ4 hb5
    have hbw5 := hbw4.trans (hb5.mono hbw4.size)
    simp only at hown
    obtain ⟨Ab, cb, hbv, hcb, -⟩ := hown.form
    have hZ6 := Lib.hid (setRow_heap w5 w.heap.size zc (callV cf bv) _ _ hZ5)
    have hown6 : OwnB (w5.setRow w.heap.size (callV cf bv)) w.heap.size 5 bv bo := OwnB.le (hown.keep fun k hk => setRow_other w5 _ k _ (by have h1 := (hown.lt k hk).1; have h2 := blk_lt hZ4; omega)) hbw4.size
    have HE : OfQ w ((cf, bo), en) (.returned (.tuple #[.agg (callV cf bv), .int .i64 en])) (w5.setRow w.heap.size (callV cf bv)) := ⟨bv, rfl, hown6, below_setRow' hbw5 (Nat.le_refl _) _⟩
    replace HE := Lib.hid HE
    have hone : ((callV cf bv).all (·.oneCell')) = true := by rw [hbv]; simp [callV, Value.oneCell']
    clear hown hown6 hbv
    go_wp2_with (refine wpList_store_row rfl 26 _ _ rfl w.heap.size (callV cf bv) rfl rfl 26 zc hZ5 (by kernel_rfl) rfl hone ?_)
    exact bodyPost_ret (v := .tuple #[.agg (callV cf bv), .int .i64 en]) (results_row_one asked_ress _ _ w.heap.size 26 (callV cf bv) (0, 0) _ _ rfl rfl hZ6.out Tryd.underlying26 rfl call15) rfl HE.out
  · obtain ⟨e1, e2⟩ := empty_ne by_ hbe
    have e3 : (by_.toList != ([] : List UInt8)) = true := by rw [bne_iff_ne]; exact e1
    have hh : hsA by_ = [⟨⟨#[104, 111, 115, 116]⟩, ⟨#[120]⟩⟩, ⟨⟨#[114, 97, 110, 103, 101]⟩, by_⟩] := by unfold hsA; rw [if_neg hbe]
    rw [hh]
    clear hbe hh
    have hZ4 := blk_below hZ3 hb4
    have hbw4 := hbw3.trans (hb4.mono hbw3.size)
    have ho4 := ownsRow_below ho3 hb4
    have hcell4 : ∀ k, k < bd.size → (w3.alloc (.cells #[.string m, .string t, .slice (some ⟨w.heap.size + 1, 0, none⟩) 1 1, .slice (some ⟨w.heap.size + 1 + 1, 0, none⟩) bd.size c3] 31)).cell? ⟨w.heap.size + 2, k, none⟩ = some (.int .u8 (bd.data.toList[k]?.getD 0).toNat) := fun k hk => below_cell hb4 (hcell3 k hk)
    obtain ⟨W4, hW4⟩ : ∃ W, w3.alloc (.cells #[.string m, .string t, .slice (some ⟨w.heap.size + 1, 0, none⟩) 1 1, .slice (some ⟨w.heap.size + 1 + 1, 0, none⟩) bd.size c3] 31) = W := ⟨_, rfl⟩
    rw [hW4] at hZ4 hbw4 ho4 hcell4 hG4 hs4
    have hcG2 : W4.cell? ⟨w3.heap.size, 2, none⟩ = some (.slice (some ⟨w.heap.size + 1, 0, none⟩) 1 1) := by rw [blk_cell hG4]; rfl
    have hb5 : Below W4.heap.size W4 (W4.alloc (.cells #[.string ⟨#[114, 97, 110, 103, 101]⟩, .string by_] 41)) := (Below.refl _ W4).alloc (Nat.le_refl _) _
    have hZ5 := blk_below hZ4 hb5
    have hG5 := blk_below hG4 hb5
    have hbw5 := hbw4.trans (hb5.mono hbw4.size)
    have ho5 := ownsRow_below ho4 hb5
    have hcell5 : ∀ k, k < bd.size → (W4.alloc (.cells #[.string ⟨#[114, 97, 110, 103, 101]⟩, .string by_] 41)).cell? ⟨w.heap.size + 2, k, none⟩ = some (.int .u8 (bd.data.toList[k]?.getD 0).toNat) := fun k hk => below_cell hb5 (hcell4 k hk)
    have hnew : ∀ j u, ([.string ⟨#[114, 97, 110, 103, 101]⟩, .string by_] : List Value)[j]? = some u → (W4.alloc (.cells #[.string ⟨#[114, 97, 110, 103, 101]⟩, .string by_] 41)).cell? ((⟨W4.heap.size, 0, none⟩ : Addr).add j) = some u := cells_newL W4 [.string ⟨#[114, 97, 110, 103, 101]⟩, .string by_] _
    obtain ⟨W5, hW5⟩ : ∃ W, W4.alloc (.cells #[.string ⟨#[114, 97, 110, 103, 101]⟩, .string by_] 41) = W := ⟨_, rfl⟩
    rw [hW5] at hZ5 hG5 hbw5 ho5 hcell5 hnew hb5
    have hs5 : W4.heap.size < W5.heap.size := by rw [← hW5]; simp
    rw [hs4] at hs5
    replace hW4 := Lib.hid hW4
    replace hW5 := Lib.hid hW5
    generalize hrr : ofP m t [⟨⟨#[104, 111, 115, 116]⟩, ⟨#[120]⟩⟩, ⟨⟨#[114, 97, 110, 103, 101]⟩, by_⟩] bd.data.toList = r
    replace hrr := Lib.hid hrr
    obtain ⟨⟨cf, bo⟩, en⟩ := r
    obtain ⟨i0, hi, hz0, hz1, hz2⟩ := info_parts infoPr
    clear hcell4 hcell3 ho4 ho3 ho2 hZ4 hZ3 hZ2 hP2 hb3 hbw4 hbw3 hbw2 hs2 hsz3 hb4 hb5 hG4 hs4
    go_enter Tryd.func15, Tryd.ntmps15
    go_upto_region 3 with (fail)
    rw [hW4.out]
    have hcl := Lib.hid hcell5
    clear hcell5
    go_wp2_with (rw [hW5.out]; at_builtin; go_must (refine wpList_append_own _ rfl _ _ 29 rfl (w.heap.size + 1) 41 i0 _ 2 32 Tryd.underlying29 hi hz0 hz1 hz2 rfl (by decide) _ _ _ rfl ho5 ⟨W4.heap.size, 0, none⟩ 1 1 [.string ⟨#[114, 97, 110, 103, 101]⟩, .string by_] rfl rfl hnew (by simp [Value.oneCell']) (by decide) (by decide) (by omega) ?_))
    intro v6 w6 hown6 hgrow _
    obtain ⟨A6, c6, rfl⟩ := slice_form hown6
    have hG6 := blk_grown hG5 hgrow (by simp [Value.ownBlock]; omega)
    have hZ6 := blk_grown hZ5 hgrow (by simp [Value.ownBlock])
    have hbw6 := hbw5.grown hgrow (by omega) (fun k hk => by simp [Value.ownBlock] at hk; omega)
    have cG6 : w6.cell? ⟨w3.heap.size, 2, none⟩ = some (.slice (some ⟨w.heap.size + 1, 0, none⟩) 1 1) := by rw [blk_cell hG6]; rfl
    have fG6 := blk_frozen hG6 2
    have hG7 := blk_put hG6 2 (.slice A6 2 c6) rfl
    have hcell6 : ∀ k, k < bd.size → w6.cell? ⟨w.heap.size + 2, k, none⟩ = some (.int .u8 (bd.data.toList[k]?.getD 0).toNat) := fun k hk => by
      have h1 := cell_lt (hcl.out k hk)
      have h2 := hgrow.block _ h1 (by simp [Value.ownBlock])
      exact heap_cell (p := ⟨w.heap.size + 2, k, none⟩) h2 (hcl.out k hk)
    have hk7 := (Keeps.refl (fun k => k = w3.heap.size) w6).setCell (p := ⟨w3.heap.size, 2, none⟩) (fun _ => rfl) (.slice A6 2 c6)
    have hcell7 : ∀ k, k < bd.size → (w6.setCell ⟨w3.heap.size, 2, none⟩ (.slice A6 2 c6)).cell? ⟨w.heap.size + 2, k, none⟩ = some (.int .u8 (bd.data.toList[k]?.getD 0).toNat) := fun k hk => hk7.cell (by show ¬ w.heap.size + 2 = w3.heap.size; omega) (hcell6 k hk)
    have hfar : (Value.slice A6 2 c6).ownBlock ≠ some w3.heap.size := by
      intro h
      rcases hown6.2 with ⟨h1, h2⟩ | ⟨b, cap, cur, h1, h2, h3, _⟩
      · cases h2
      · injection h1 with h1 _ _
        subst h1
        simp only [Value.ownBlock, Option.some.injEq] at h
        subst h
        rw [hG6] at h3
        injection h3 with h3
        injection h3 with _ h3
        revert h3
        decide
    have hown7 : (w6.setCell ⟨w3.heap.size, 2, none⟩ (.slice A6 2 c6)).ownsRow (w.heap.size + 1) 41 2 (.slice A6 2 c6) 2 [.string ⟨#[104, 111, 115, 116]⟩, .string ⟨#[120]⟩, .string ⟨#[114, 97, 110, 103, 101]⟩, .string by_] := ownsRow_set (a := ⟨w3.heap.size, 2, none⟩) hown6 hfar (.slice A6 2 c6)
    have hZ7 := blk_far hZ6 (p := ⟨w3.heap.size, 2, none⟩) (by show w.heap.size ≠ w3.heap.size; omega) (.slice A6 2 c6)
    have hbw7 := hbw6.setCell (p := ⟨w3.heap.size, 2, none⟩) (by show w.heap.size ≤ w3.heap.size; omega) (.slice A6 2 c6)
    obtain ⟨A, c, hA, hc, hC⟩ := pairs_own [⟨⟨#[104, 111, 115, 116]⟩, ⟨#[120]⟩⟩, ⟨⟨#[114, 97, 110, 103, 101]⟩, by_⟩] hown7
    cases hA
    have hof : Calls Tryd.prog 10 #[.agg #[.string m, .string t, .slice A6 2 c6, .slice (some ⟨w.heap.size + 1 + 1, 0, none⟩) bd.size c3]] _ _ := of_lit m t [⟨⟨#[104, 111, 115, 116]⟩, ⟨#[120]⟩⟩, ⟨⟨#[114, 97, 110, 103, 101]⟩, by_⟩] _ c6 bd (w.heap.size + 2) c3 _ ht (by simp) (by intro q hq; simp at hq; rcases hq with rfl | rfl; decide; exact hby) hC hc hcell7 hbd hcc
    rw [hrr.out] at hof
    go_wp2_with (refine wpList_load_row rfl 31 _ rfl w3.heap.size rfl 31 _ (0, 0) _ hG7 Tryd.underlying31 rfl (by kernel_rfl) ?_)
    refine hof.mono ?_
    clear hof hcv hG7 hG6 hcell6 hcell7 hown6 hown7 hk7 hfar cG6 fG6 hC hc
    rintro e w8 ⟨bv, rfl, hown, hb8⟩
    have hZ8 := blk_below hZ7 hb8
    have hbw8 := hbw7.trans (hb8.mono hbw7.size)
    simp only at hown
    obtain ⟨Ab, cb, hbv, hcb, -⟩ := hown.form
    have hZ9 := Lib.hid (setRow_heap w8 w.heap.size zc (callV cf bv) _ _ hZ8)
    have hown9 : OwnB (w8.setRow w.heap.size (callV cf bv)) w.heap.size 5 bv bo := OwnB.le (hown.keep fun k hk => setRow_other w8 _ k _ (by have h1 := (hown.lt k hk).1; have h2 := blk_lt hZ7; omega)) hbw7.size
    have HE : OfQ w ((cf, bo), en) (.returned (.tuple #[.agg (callV cf bv), .int .i64 en])) (w8.setRow w.heap.size (callV cf bv)) := ⟨bv, rfl, hown9, below_setRow' hbw8 (Nat.le_refl _) _⟩
    replace HE := Lib.hid HE
    have hone : ((callV cf bv).all (·.oneCell')) = true := by rw [hbv]; simp [callV, Value.oneCell']
    clear hown hown9 hbv
    go_wp2_with (refine wpList_store_row rfl 26 _ _ rfl w.heap.size (callV cf bv) rfl rfl 26 zc hZ8 (by kernel_rfl) rfl hone ?_)
    exact bodyPost_ret (v := .tuple #[.agg (callV cf bv), .int .i64 en]) (results_row_one asked_ress _ _ w.heap.size 26 (callV cf bv) (0, 0) _ _ rfl rfl hZ9.out Tryd.underlying26 rfl call15) rfl HE.out
end Go.Proofs.YtehibiplodjofaaDoor
namespace Go.Proofs.YtehibiplodjofaaDoor.Pr
open Go.RowKit Go.Proofs.YtehibiplodjofaaDoorW.PrintWords Go.Proofs.YtehibiplodjofaaDoorW.PrintLast Go.Proofs.YtehibiplodjofaaDoorW.PrintMore
set_option linter.unusedVariables false
def stowagelaw29_asked.f (a0 a1 a2 a3 : ByteArray) : Option (Int × ByteArray × ByteArray × ByteArray × ByteArray × Int × ByteArray × ByteArray × ByteArray × ByteArray × Int × Bool × Int × Int × List Int × Int) :=
  if (decide (a1.size ≤ 1000000) && (decide (a2.size ≤ 1000000) && decide (a3.size ≤ 1000000))) = true then
    (let r := ofP a0 a1 (hsA a2) a3.data.toList
     some (r.1.1.kind, r.1.1.bucket, r.1.1.key, r.1.1.version, r.1.1.upload, r.1.1.part, r.1.1.pre, r.1.1.delim, r.1.1.aft, r.1.1.behind, r.1.1.most, r.1.1.ranged, r.1.1.frm, r.1.1.til, numsL r.1.2, r.2))
  else none
end Go.Proofs.YtehibiplodjofaaDoor.Pr
end
section
/- stowagelaw29.asks, fails: by their walks, in the print's form. -/
namespace Go.Proofs.YtehibiplodjofaaDoor
open Go.RowKit Go.Proofs.YtehibiplodjofaaDoorW.PrintWords Go.Proofs.YtehibiplodjofaaDoorW.PrintLast Go.Proofs.YtehibiplodjofaaDoorW.PrintMore
set_option linter.unusedVariables false
set_option linter.unusedSimpArgs false
theorem wpList_loadG {P : Program} {ops : Array Oper} {rest : List Oper} {o : Oper} {a : Act} {w : World} {Q : Exit → Act → World → Prop} (hw : Region.wanted o (yielded ops a.tmps) = true) (ty : TypeId) (x : Operand) (ho : o.op = .load ty x)
    (g : Nat) (hx : a.eval x = .pointer (some ⟨g, 0, none⟩)) (t : TypeId) (cs : Array Value) (fr : Nat × Nat) (d : TypeDesc) (hg : w.heap[g]? = some (.cells cs t fr))
    (hu : P.underlying ty = some d) (hd : (match d with | .struct _ | .array _ _ => true | _ => false) = true) (hi : (P.info? ty).map (·.size) = some cs.size)
    (h : wpList P ops Q rest (a.put o.dst (.agg cs)) w) : wpList P ops Q (o :: rest) a w :=
  wpList_step fun K hK => by
    rw [if_pos hw]
    exact wp_load_row ty x ho g hx t cs fr d hg hu hd hi (hK _ _ h)
def sameO (c : CallP) (b : List Int) (d : CallP) (b' : List Int) : Option Bool :=
  Pr.stowagekit_SameCall.f 5 c.kind c.bucket c.key c.version c.upload c.part c.pre c.delim c.aft c.behind c.most c.ranged c.frm c.til b d.kind d.bucket d.key d.version d.upload d.part d.pre d.delim d.aft d.behind d.most d.ranged d.frm d.til b'
theorem ite_isSome {p : Prop} [Decidable p] {a b : Option Bool} (ha : a.isSome = true) (hb : b.isSome = true) : (if p then a else b).isSome = true := by split <;> assumption
theorem sameO_some (c : CallP) (b : List Int) (d : CallP) (b' : List Int) : (sameO c b d b').isSome = true := by
  unfold sameO Pr.stowagekit_SameCall.f Pr.stowagekit_SameBytes.f
  simp only [Option.bind_some, Pr.stowagekit_SameCall.j0]
  repeat' (first | rfl | apply ite_isSome)
def sameF (c : CallP) (b : List Int) (d : CallP) (b' : List Int) : Bool := (sameO c b d b').getD false
theorem sameO_F (c : CallP) (b : List Int) (d : CallP) (b' : List Int) : sameO c b d b' = some (sameF c b d b') := by
  obtain ⟨r, h⟩ := Option.isSome_iff_exists.1 (sameO_some c b d b')
  unfold sameF
  rw [h]
  rfl
theorem same_any (c : CallP) (A : Option Addr) (n : Nat) (b : List Int) (d : CallP) (A' : Option Addr) (n' : Nat) (b' : List Int) (w : World) (h1 : Kd.C (Kd.int .u8) w A b.length b) (h2 : b.length ≤ n) (h3 : Kd.C (Kd.int .u8) w A' b'.length b') (h4 : b'.length ≤ n') :
    Calls Tryd.prog 11 #[.agg (callV c (.slice A b.length n)), .agg (callV d (.slice A' b'.length n'))] w fun e w' => e = .returned (.bool (sameF c b d b')) ∧ Below w.heap.size w w' :=
  Pr.stowagekit_SameCall.calls 5 c.kind c.bucket c.key c.version c.upload c.part c.pre c.delim c.aft c.behind c.most c.ranged c.frm c.til A n b d.kind d.bucket d.key d.version d.upload d.part d.pre d.delim d.aft d.behind d.most d.ranged d.frm d.til A' n' b' _ w h1 h2 h3 h4 (sameO_F c b d b')
theorem own_nums {w : World} {B : Nat} {v : Value} {l : List UInt8} (h : OwnB w B 5 v l) : ∃ A c, v = .slice A (Pr.numsL l).length c ∧ (Pr.numsL l).length ≤ c ∧ Kd.C (Kd.int .u8) w A (Pr.numsL l).length (Pr.numsL l) := Kd.R_reads (Pr.R_bytes h.row)
set_option maxHeartbeats 4000000 in
set_option maxRecDepth 10000 in
theorem asks_any (m t by_ bd : ByteArray) (d : CallP) (A : Option Addr) (n : Nat) (b : List Int) (w : World) (ht : t.size ≤ 1000000) (hbd : bd.size ≤ 1000000) (hby : by_.size ≤ 1000000) (hb : Kd.C (Kd.int .u8) w A b.length b) (hn : b.length ≤ n) :
    Calls Tryd.prog 7 #[.string m, .string t, .string by_, .string bd, .agg (callV d (.slice A b.length n))] w fun e w' => e = .returned (.bool (decide ((ofP m t (hsA by_) bd.data.toList).2 = 0) && sameF (ofP m t (hsA by_) bd.data.toList).1.1 (Pr.numsL (ofP m t (hsA by_) bd.data.toList).1.2) d b)) ∧ Below w.heap.size w w' := by
  have hak := asked_any m t by_ bd (w.alloc (.cells (callV d (.slice A b.length n)) 26)) ht hbd hby
  generalize ofP m t (hsA by_) bd.data.toList = r at hak ⊢
  obtain ⟨⟨cf, bo⟩, en⟩ := r
  have hb0 : Below w.heap.size w (w.alloc (.cells (callV d (.slice A b.length n)) 26)) := (Below.refl _ w).alloc (Nat.le_refl _) _
  have hg0 := heap_alloc_new w (.cells (callV d (.slice A b.length n)) 26)
  have hcb0 := Kd.C_below hb hb0
  generalize hr : (decide (((cf, bo), en).2 = 0) && sameF ((cf, bo), en).1.1 (Pr.numsL ((cf, bo), en).1.2) d b) = rr
  replace hr := Lib.hid hr
  generalize hcv : callV d (.slice A b.length n) = cv at hak hb0 hg0 hcb0 ⊢
  have hsz : cv.size = 15 := by rw [← hcv]; rfl
  have hone0 : (cv.all (·.oneCell')) = true := by rw [← hcv]; simp [callV, Value.oneCell']
  replace hcv := Lib.hid hcv
  go_enter Tryd.func7, Tryd.ntmps7
  go_wp2_with fail
  refine hak.mono ?_
  clear hak
  rintro e w1 ⟨bv, rfl, hown, hb1⟩
  simp only at hown
  obtain ⟨A1, n1, hbv, hn1, hC1⟩ := own_nums hown
  have hb01 := hb0.trans (hb1.mono hb0.size)
  have hg1 := blk_below hg0 hb1
  have hcb1 := Kd.C_below hcb0 hb1
  have hb2 : Below w1.heap.size w1 (w1.alloc (.cells (callV cf bv) 26)) := (Below.refl _ w1).alloc (Nat.le_refl _) _
  have hg2 := blk_below hg1 hb2
  have hG2 := heap_alloc_new w1 (.cells (callV cf bv) 26)
  have hbw2 := hb01.trans (hb2.mono hb01.size)
  have hsm := same_any cf A1 n1 (Pr.numsL bo) d A n b (w1.alloc (.cells (callV cf bv) 26)) (Kd.C_below hC1 hb2) hn1 (Kd.C_below hcb1 hb2) hn
  rw [← hbv, hcv.out] at hsm
  have hone1 : ((callV cf bv).all (·.oneCell')) = true := by rw [hbv]; simp [callV, Value.oneCell']
  have hzn := heap_alloc_new w1 (.cells zc 26)
  have hcf : (callV cf bv).size = 15 := rfl
  obtain ⟨cw, hcw⟩ : ∃ x, callV cf bv = x := ⟨_, rfl⟩
  rw [hcw] at hsm hone1 hcf hG2 hg2 hbw2 ⊢
  clear hcw hbv hn1 hC1 hcb1 hcb0 hown hb2 hg1 hb1 hb0 hg0 hb01
  by_cases hen : en = 0
  · subst hen
    have hrr : rr = sameF cf (Pr.numsL bo) d b := by rw [← hr.out]; simp
    subst hrr
    clear hr
    go_wp2_with (first
      | (refine wpList_store_row rfl 26 _ _ rfl w1.heap.size cw rfl rfl 26 zc hzn (by rw [hcf]; exact call15) (by rw [hcf]; rfl) hone1 ?_; rw [World.setRow_alloc_new])
      | (refine wpList_loadG rfl 26 _ rfl w1.heap.size rfl 26 cw (0, 0) _ hG2 Tryd.underlying26 rfl (by rw [hcf]; exact call15) ?_)
      | (refine wpList_loadG rfl 26 _ rfl w.heap.size rfl 26 cv (0, 0) _ hg2 Tryd.underlying26 rfl (by rw [hsz]; exact call15) ?_))
    refine hsm.mono ?_
    clear hsm
    rintro e w3 ⟨rfl, hb3⟩
    have hbw3 := hbw2.trans (hb3.mono hbw2.size)
    go_wp2
    go_ret
    exact ⟨rfl, hbw3⟩
  · have hrr : rr = false := by rw [← hr.out]; simp [hen]
    subst hrr
    have hen' : (en == 0) = false := by simpa using hen
    clear hr hsm
    go_wp2_with (refine wpList_store_row rfl 26 _ _ rfl w1.heap.size cw rfl rfl 26 zc hzn (by rw [hcf]; exact call15) (by rw [hcf]; rfl) hone1 ?_; rw [World.setRow_alloc_new])
    go_ret
    exact ⟨rfl, hbw2⟩
set_option maxHeartbeats 4000000 in
set_option maxRecDepth 10000 in
theorem fails_any (m t by_ : ByteArray) (want : Int) (w : World) (ht : t.size ≤ 1000000) (hby : by_.size ≤ 1000000) :
    Calls Tryd.prog 8 #[.string m, .string t, .string by_, .int .i64 want] w fun e w' => e = .returned (.bool (decide ((ofP m t (hsA by_) []).2 = want) && sameF (ofP m t (hsA by_) []).1.1 (Pr.numsL (ofP m t (hsA by_) []).1.2) zcall [])) ∧ Below w.heap.size w w' := by
  have hak := asked_any m t by_ ⟨#[]⟩ w ht (by decide) hby
  rw [show ((⟨#[]⟩ : ByteArray).data.toList) = [] from rfl] at hak
  generalize ofP m t (hsA by_) [] = r at hak ⊢
  obtain ⟨⟨cf, bo⟩, en⟩ := r
  generalize hr : (decide (((cf, bo), en).2 = want) && sameF ((cf, bo), en).1.1 (Pr.numsL ((cf, bo), en).1.2) zcall []) = rr
  replace hr := Lib.hid hr
  go_enter Tryd.func8, Tryd.ntmps8
  go_wp2_with fail
  refine hak.mono ?_
  clear hak
  rintro e w1 ⟨bv, rfl, hown, hb1⟩
  simp only at hown
  obtain ⟨A1, n1, hbv, hn1, hC1⟩ := own_nums hown
  have hb2 : Below w1.heap.size w1 (w1.alloc (.cells (callV cf bv) 26)) := (Below.refl _ w1).alloc (Nat.le_refl _) _
  have hG2 := heap_alloc_new w1 (.cells (callV cf bv) 26)
  have hbw2 := hb1.trans (hb2.mono hb1.size)
  have hsm := same_any cf A1 n1 (Pr.numsL bo) zcall none 0 [] (w1.alloc (.cells (callV cf bv) 26)) (Kd.C_below hC1 hb2) hn1 (Kd.C_nil _ _) (Nat.le_refl _)
  rw [← hbv] at hsm
  have hsm' : Calls Tryd.prog 11 #[.agg (callV cf bv), .agg zc] (w1.alloc (.cells (callV cf bv) 26)) fun e w' => e = .returned (.bool (sameF cf (Pr.numsL bo) zcall [])) ∧ Below (w1.alloc (.cells (callV cf bv) 26)).heap.size (w1.alloc (.cells (callV cf bv) 26)) w' := hsm
  clear hsm
  have hone1 : ((callV cf bv).all (·.oneCell')) = true := by rw [hbv]; simp [callV, Value.oneCell']
  have hzn := heap_alloc_new w1 (.cells zc 26)
  have hcf : (callV cf bv).size = 15 := rfl
  obtain ⟨cw, hcw⟩ : ∃ x, callV cf bv = x := ⟨_, rfl⟩
  rw [hcw] at hsm' hone1 hcf hG2 hbw2 ⊢
  clear hcw hbv hn1 hC1 hown hb2 hb1
  unfold zc at hsm'
  by_cases hen : en = want
  · subst hen
    have hrr : rr = sameF cf (Pr.numsL bo) zcall [] := by rw [← hr.out]; simp
    subst hrr
    have hee : (en == en) = true := by simp
    clear hr
    go_wp2_with (first
      | (refine wpList_store_row rfl 26 _ _ rfl w1.heap.size cw rfl rfl 26 zc hzn (by rw [hcf]; exact call15) (by rw [hcf]; rfl) hone1 ?_; rw [World.setRow_alloc_new])
      | (refine wpList_loadG rfl 26 _ rfl w1.heap.size rfl 26 cw (0, 0) _ hG2 Tryd.underlying26 rfl (by rw [hcf]; exact call15) ?_))
    refine hsm'.mono ?_
    clear hsm'
    rintro e w3 ⟨rfl, hb3⟩
    have hbw3 := hbw2.trans (hb3.mono hbw2.size)
    go_wp2
    go_ret
    exact ⟨rfl, hbw3⟩
  · have hrr : rr = false := by rw [← hr.out]; simp [hen]
    subst hrr
    have hen' : (en == want) = false := by simpa using hen
    clear hr hsm'
    go_wp2_with (refine wpList_store_row rfl 26 _ _ rfl w1.heap.size cw rfl rfl 26 zc hzn (by rw [hcf]; exact call15) (by rw [hcf]; rfl) hone1 ?_; rw [World.setRow_alloc_new])
    go_ret
    exact ⟨rfl, hbw2⟩
end Go.Proofs.YtehibiplodjofaaDoor
namespace Go.Proofs.YtehibiplodjofaaDoor.Pr
open Go.RowKit Go.Proofs.YtehibiplodjofaaDoorW.PrintWords Go.Proofs.YtehibiplodjofaaDoorW.PrintLast Go.Proofs.YtehibiplodjofaaDoorW.PrintMore
set_option linter.unusedVariables false
def stowagelaw29_asks.f (a0 a1 a2 a3 : ByteArray) (a4_0 : Int) (a4_1 a4_2 a4_3 a4_4 : ByteArray) (a4_5 : Int) (a4_6 a4_7 a4_8 a4_9 : ByteArray) (a4_10 : Int) (a4_11 : Bool) (a4_12 a4_13 : Int) (l4_14 : List Int) : Option Bool :=
  if (decide (a1.size ≤ 1000000) && (decide (a2.size ≤ 1000000) && decide (a3.size ≤ 1000000))) = true then
    some (decide ((ofP a0 a1 (hsA a2) a3.data.toList).2 = 0) && sameF (ofP a0 a1 (hsA a2) a3.data.toList).1.1 (numsL (ofP a0 a1 (hsA a2) a3.data.toList).1.2) ⟨a4_0, a4_1, a4_2, a4_3, a4_4, a4_5, a4_6, a4_7, a4_8, a4_9, a4_10, a4_11, a4_12, a4_13⟩ l4_14)
  else none
def stowagelaw29_fails.f (a0 a1 a2 : ByteArray) (a3 : Int) : Option Bool :=
  if (decide (a1.size ≤ 1000000) && decide (a2.size ≤ 1000000)) = true then
    some (decide ((ofP a0 a1 (hsA a2) []).2 = a3) && sameF (ofP a0 a1 (hsA a2) []).1.1 (numsL (ofP a0 a1 (hsA a2) []).1.2) zcall [])
  else none
end Go.Proofs.YtehibiplodjofaaDoor.Pr
end
section
/- stowagelaw29.awake, RouteKnown: by their walks. -/
namespace Go.Proofs.YtehibiplodjofaaDoor
open Go.RowKit Go.Proofs.YtehibiplodjofaaDoorW.PrintWords Go.Proofs.YtehibiplodjofaaDoorW.PrintLast Go.Proofs.YtehibiplodjofaaDoorW.PrintMore
set_option linter.unusedVariables false
set_option linter.unusedSimpArgs false
def asksB (m t by_ bd : ByteArray) (d : CallP) (b : List Int) : Bool := decide ((ofP m t (hsA by_) bd.data.toList).2 = 0) && sameF (ofP m t (hsA by_) bd.data.toList).1.1 (Pr.numsL (ofP m t (hsA by_) bd.data.toList).1.2) d b
def failsB (m t by_ : ByteArray) (want : Int) : Bool := decide ((ofP m t (hsA by_) []).2 = want) && sameF (ofP m t (hsA by_) []).1.1 (Pr.numsL (ofP m t (hsA by_) []).1.2) zcall []
theorem asks_true (m t by_ bd : ByteArray) (d : CallP) (ht : t.size ≤ 1000000) (hbd : bd.size ≤ 1000000) (hby : by_.size ≤ 1000000) (h : asksB m t by_ bd d [] = true) (w : World) :
    Calls Tryd.prog 7 #[.string m, .string t, .string by_, .string bd, .agg (callV d (.slice none 0 0))] w fun e w' => e = .returned (.bool true) ∧ Below w.heap.size w w' := by
  have := asks_any m t by_ bd d none 0 [] w ht hbd hby (Kd.C_nil _ _) (Nat.le_refl _)
  unfold asksB at h
  rw [h] at this
  exact this
theorem fails_true (m t by_ : ByteArray) (want : Int) (ht : t.size ≤ 1000000) (hby : by_.size ≤ 1000000) (h : failsB m t by_ want = true) (w : World) :
    Calls Tryd.prog 8 #[.string m, .string t, .string by_, .int .i64 want] w fun e w' => e = .returned (.bool true) ∧ Below w.heap.size w w' := by
  have := fails_any m t by_ want w ht hby
  unfold failsB at h
  rw [h] at this
  exact this
theorem k1 : asksB (⟨#[71, 69, 84]⟩ : ByteArray) (⟨#[47]⟩ : ByteArray) (⟨#[]⟩ : ByteArray) (⟨#[]⟩ : ByteArray) { zcall with kind := 1 } [] = true := by decide +kernel
theorem k2 : asksB (⟨#[71, 69, 84]⟩ : ByteArray) (⟨#[47, 97, 98, 99, 47, 120, 47, 121, 63, 118, 101, 114, 115, 105, 111, 110, 73, 100, 61, 118]⟩ : ByteArray) (⟨#[98, 121, 116, 101, 115, 61, 50, 45]⟩ : ByteArray) (⟨#[]⟩ : ByteArray) { zcall with kind := 12, bucket := (⟨#[97, 98, 99]⟩ : ByteArray), key := (⟨#[120, 47, 121]⟩ : ByteArray), version := (⟨#[118]⟩ : ByteArray), ranged := true, frm := 2, til := -1 } [] = true := by decide +kernel
theorem k3 : asksB (⟨#[80, 85, 84]⟩ : ByteArray) (⟨#[47, 97, 98, 99]⟩ : ByteArray) (⟨#[]⟩ : ByteArray) (⟨#[]⟩ : ByteArray) { zcall with kind := 2, bucket := (⟨#[97, 98, 99]⟩ : ByteArray) } [] = true := by decide +kernel
theorem k4 : asksB (⟨#[71, 69, 84]⟩ : ByteArray) (⟨#[47, 97, 98, 99, 47, 63, 112, 114, 101, 102, 105, 120, 61, 97, 37, 50, 102]⟩ : ByteArray) (⟨#[]⟩ : ByteArray) (⟨#[]⟩ : ByteArray) { zcall with kind := 5, bucket := (⟨#[97, 98, 99]⟩ : ByteArray), pre := (⟨#[97, 47]⟩ : ByteArray), most := 1000 } [] = true := by decide +kernel
theorem k5 : asksB (⟨#[80, 85, 84]⟩ : ByteArray) (⟨#[47, 97, 98, 99, 47, 120, 63, 112, 97, 114, 116, 78, 117, 109, 98, 101, 114, 61, 51, 38, 117, 112, 108, 111, 97, 100, 73, 100, 61, 117]⟩ : ByteArray) (⟨#[]⟩ : ByteArray) (⟨#[98]⟩ : ByteArray) { zcall with kind := 17, bucket := (⟨#[97, 98, 99]⟩ : ByteArray), key := (⟨#[120]⟩ : ByteArray), upload := (⟨#[117]⟩ : ByteArray), part := 3 } [98] = true := by decide +kernel
theorem f1 : failsB (⟨#[80, 79, 83, 84]⟩ : ByteArray) (⟨#[47, 97, 98, 99]⟩ : ByteArray) (⟨#[]⟩ : ByteArray) 390 = true := by decide +kernel
theorem f2 : failsB (⟨#[71, 69, 84]⟩ : ByteArray) (⟨#[47, 97, 98]⟩ : ByteArray) (⟨#[]⟩ : ByteArray) 13 = true := by decide +kernel
theorem f3 : failsB (⟨#[71, 69, 84]⟩ : ByteArray) (⟨#[47, 97, 98, 99, 63, 118, 101, 114, 115, 105, 111, 110, 115, 38, 108, 105, 102, 101, 99, 121, 99, 108, 101]⟩ : ByteArray) (⟨#[]⟩ : ByteArray) 2 = true := by decide +kernel
theorem f4 : failsB (⟨#[71, 69, 84]⟩ : ByteArray) (⟨#[97, 98, 99]⟩ : ByteArray) (⟨#[]⟩ : ByteArray) 4 = true := by decide +kernel
theorem f5 : failsB (⟨#[71, 69, 84]⟩ : ByteArray) (⟨#[47, 97, 98, 99, 63, 109, 97, 120, 45, 107, 101, 121, 115, 61, 48]⟩ : ByteArray) (⟨#[]⟩ : ByteArray) 2 = true := by decide +kernel
theorem f6 : failsB (⟨#[80, 85, 84]⟩ : ByteArray) (⟨#[47, 97, 98, 99, 47, 120, 63, 117, 112, 108, 111, 97, 100, 73, 100, 61, 117]⟩ : ByteArray) (⟨#[]⟩ : ByteArray) 2 = true := by decide +kernel
theorem f7 : failsB (⟨#[71, 69, 84]⟩ : ByteArray) (⟨#[47, 97, 98, 99, 47, 120]⟩ : ByteArray) (⟨#[98, 121, 116, 101, 115, 61, 50, 45, 49]⟩ : ByteArray) 2 = true := by decide +kernel
set_option maxHeartbeats 2000000 in
theorem awake29_any (w : World) : Calls Tryd.prog 6 #[] w fun e w' => e = .returned (.bool true) ∧ Below w.heap.size w w' := by
  have h1 := asks_true _ _ _ _ _ (by decide) (by decide) (by decide) k1
  have h2 := asks_true _ _ _ _ _ (by decide) (by decide) (by decide) k2
  simp only [callV, zcall] at h1 h2
  go_enter Tryd.func6, Tryd.ntmps6
  go_wp2_with fail
  refine (h1 _).mono ?_
  rintro e w1 ⟨rfl, hb1⟩
  go_wp2_with fail
  refine (h2 _).mono ?_
  rintro e w2 ⟨rfl, hb2⟩
  have hb := hb1.trans (hb2.mono hb1.size)
  clear h1 h2
  go_wp2
  go_ret
  exact ⟨rfl, hb⟩
theorem asks_put (m t by_ bd : ByteArray) (d : CallP) (W : World) (x : UInt8) (ht : t.size ≤ 1000000) (hbd : bd.size ≤ 1000000) (hby : by_.size ≤ 1000000) (h : asksB m t by_ bd d [(x.toNat : Int)] = true) :
    Calls Tryd.prog 7 #[.string m, .string t, .string by_, .string bd, .agg (callV d (.slice (some ⟨W.heap.size, 0, none⟩) 1 1))] (W.alloc (.cells #[.int .u8 x.toNat] 5 (1, 2))) fun e w' => e = .returned (.bool true) ∧ Below (W.alloc (.cells #[.int .u8 x.toNat] 5 (1, 2))).heap.size (W.alloc (.cells #[.int .u8 x.toNat] 5 (1, 2))) w' := by
  have hc : Kd.C (Kd.int .u8) (W.alloc (.cells #[.int .u8 x.toNat] 5 (1, 2))) (some ⟨W.heap.size, 0, none⟩) ([(x.toNat : Int)] : List Int).length [(x.toNat : Int)] := nums_cells (l := [x]) (n := 1) rfl (by decide) (fun k hk => by
    obtain rfl : k = 0 := by omega
    exact cell_of_row _ _ 0 _ _ (1, 2) (heap_alloc_new W _))
  have := asks_any m t by_ bd d _ 1 _ _ ht hbd hby hc (Nat.le_refl _)
  unfold asksB at h
  rw [h] at this
  exact this
set_option maxHeartbeats 4000000 in
set_option maxRecDepth 20000 in
theorem known_any (w : World) : Calls Tryd.prog 3 #[] w fun e w' => e = .returned (.bool true) ∧ Below w.heap.size w w' := by
  have h3 := asks_true _ _ _ _ _ (by decide) (by decide) (by decide) k3
  have h4 := asks_true _ _ _ _ _ (by decide) (by decide) (by decide) k4
  have h5 := fun W => asks_put _ _ _ _ _ W 98 (by decide) (by decide) (by decide) k5
  have g1 := fails_true _ _ _ _ (by decide) (by decide) f1
  have g2 := fails_true _ _ _ _ (by decide) (by decide) f2
  have g3 := fails_true _ _ _ _ (by decide) (by decide) f3
  have g4 := fails_true _ _ _ _ (by decide) (by decide) f4
  have g5 := fails_true _ _ _ _ (by decide) (by decide) f5
  have g6 := fails_true _ _ _ _ (by decide) (by decide) f6
  have g7 := fails_true _ _ _ _ (by decide) (by decide) f7
  simp only [callV, zcall] at h3 h4 h5
  have e98 : ((98 : UInt8).toNat : Int) = 98 := rfl
  simp only [e98] at h5
  clear e98
  go_enter Tryd.func3, Tryd.ntmps3
  go_wp2_with fail
  refine (awake29_any _).mono ?_
  rintro e w1 ⟨rfl, hb1⟩
  go_wp2_with fail
  refine (h3 _).mono ?_
  clear h3
  rintro e w2 ⟨rfl, hb2⟩
  have hB2 := bstep hb1 hb2 (Nat.le_refl _)
  clear hb1 hb2
  go_wp2_with fail
  refine (h4 _).mono ?_
  clear h4
  rintro e w3 ⟨rfl, hb3⟩
  have hB3 := bstep hB2 hb3 (Nat.le_refl _)
  clear hB2 hb3
  have kc := fun (C : Array Value) (n c : Nat) => Go.Joins.run_convert_bytes_const_at (P := Tryd.prog) w3 24 5 C n c w3.heap.size rfl Tryd.underlying24 Tryd.underlying5
  go_wp2_with fail
  refine (h5 _).mono ?_
  clear kc
  clear h5
  rintro e w4 ⟨rfl, hb4⟩
  have hB4 := bstep (hB3.alloc hB3.size _) hb4 (Nat.le_refl _)
  clear hB3 hb4
  go_wp2_with fail
  refine (g1 _).mono ?_
  rintro e w5 ⟨rfl, hb5⟩
  have hB5 := bstep hB4 hb5 (Nat.le_refl _)
  clear hB4 hb5 g1
  go_wp2_with fail
  refine (g2 _).mono ?_
  rintro e w6 ⟨rfl, hb6⟩
  have hB6 := bstep hB5 hb6 (Nat.le_refl _)
  clear hB5 hb6 g2
  go_wp2_with fail
  refine (g3 _).mono ?_
  rintro e w7 ⟨rfl, hb7⟩
  have hB7 := bstep hB6 hb7 (Nat.le_refl _)
  clear hB6 hb7 g3
  go_wp2_with fail
  refine (g4 _).mono ?_
  rintro e w8 ⟨rfl, hb8⟩
  have hB8 := bstep hB7 hb8 (Nat.le_refl _)
  clear hB7 hb8 g4
  go_wp2_with fail
  refine (g5 _).mono ?_
  rintro e w9 ⟨rfl, hb9⟩
  have hB9 := bstep hB8 hb9 (Nat.le_refl _)
  clear hB8 hb9 g5
  go_wp2_with fail
  refine (g6 _).mono ?_
  rintro e wa ⟨rfl, hba⟩
  have hBa := bstep hB9 hba (Nat.le_refl _)
  clear hB9 hba g6
  go_wp2_with fail
  refine (g7 _).mono ?_
  rintro e wb ⟨rfl, hbb⟩
  have hBb := bstep hBa hbb (Nat.le_refl _)
  clear hBa hbb g7
  go_wp2
  go_ret
  exact ⟨rfl, hBb⟩
end Go.Proofs.YtehibiplodjofaaDoor
end
section
/- Route: what the target of a bucket and a key asks for, in plain words. -/
namespace Go.Proofs.YtehibiplodjofaaDoor
open Go.RowKit
set_option linter.unusedVariables false
set_option linter.unusedSimpArgs false
theorem hex_back (c : UInt8) : hexMB (hexD (c.toNat / 16)) (hexD (c.toNat % 16)) = c ∧ ¬ hexM (hexD (c.toNat / 16)).toNat < 0 ∧ ¬ hexM (hexD (c.toNat % 16)).toNat < 0 := by
  have h : ∀ i : Fin 256, hexMB (hexD (i.1 / 16)) (hexD (i.1 % 16)) = UInt8.ofNat i.1 ∧ ¬ hexM (hexD (i.1 / 16)).toNat < 0 ∧ ¬ hexM (hexD (i.1 % 16)).toNat < 0 := by decide +kernel
  have := h ⟨c.toNat, c.toNat_lt⟩
  simpa using this
theorem plain_may (sl : Bool) (c : UInt8) (h : (plainP c.toNat || sl && decide ((c.toNat : Int) = 47)) = true) : c ≠ 37 ∧ c ≠ 43 ∧ ¬ c.toNat < 33 ∧ ¬ 126 < c.toNat := by
  have hh : ∀ i : Fin 256, (plainP i.1 || decide ((i.1 : Int) = 47)) = true → UInt8.ofNat i.1 ≠ 37 ∧ UInt8.ofNat i.1 ≠ 43 ∧ ¬ i.1 < 33 ∧ ¬ 126 < i.1 := by decide +kernel
  have := hh ⟨c.toNat, c.toNat_lt⟩ (by cases sl <;> simp_all)
  simpa using this
theorem pdec_penc (bl sl : Bool) : ∀ l : List UInt8, pdec bl (pencGo sl l) = some l
  | [] => rfl
  | c :: r => by
    have ih := pdec_penc bl sl r
    by_cases h : (plainP c.toNat || sl && decide ((c.toNat : Int) = 47)) = true
    · obtain ⟨h1, h2, h3, h4⟩ := plain_may sl c h
      rw [pencGo, if_pos h]
      simp only [List.cons_append, List.nil_append]
      rw [pdec_plain bl c _ h1 (fun e => h2 e.1), if_neg h3, if_neg h4, ih]
      rfl
    · obtain ⟨h1, h2, h3⟩ := hex_back c
      rw [pencGo, if_neg h]
      simp only [List.cons_append, List.nil_append]
      rw [pdec_pct, if_neg h2, if_neg h3, ih, h1]
      rfl
theorem enc_byte (sl : Bool) : ∀ (l : List UInt8) (c : UInt8), c ∈ pencGo sl l → c ≠ 38 ∧ c ≠ 61 ∧ c ≠ 63
  | [], c, h => by simp [pencGo] at h
  | x :: r, c, h => by
    rw [pencGo, List.mem_append] at h
    rcases h with h | h
    · by_cases hp : (plainP x.toNat || sl && decide ((x.toNat : Int) = 47)) = true
      · rw [if_pos hp] at h
        obtain rfl : c = x := by simpa using h
        have hh : ∀ i : Fin 256, (plainP i.1 || decide ((i.1 : Int) = 47)) = true → UInt8.ofNat i.1 ≠ 38 ∧ UInt8.ofNat i.1 ≠ 61 ∧ UInt8.ofNat i.1 ≠ 63 := by decide +kernel
        have := hh ⟨c.toNat, c.toNat_lt⟩ (by cases sl <;> simp_all)
        simpa using this
      · rw [if_neg hp] at h
        have hh : ∀ i : Fin 16, hexD i.1 ≠ 38 ∧ hexD i.1 ≠ 61 ∧ hexD i.1 ≠ 63 := by decide +kernel
        have h1 := hh ⟨x.toNat / 16, by have := x.toNat_lt; omega⟩
        have h2 := hh ⟨x.toNat % 16, by omega⟩
        simp only [List.mem_cons, List.mem_nil_iff, or_false] at h
        rcases h with rfl | rfl | rfl
        · decide
        · exact h1
        · exact h2
    · exact enc_byte sl r c h
theorem penc_le (sl : Bool) : ∀ l : List UInt8, (pencGo sl l).length ≤ 3 * l.length
  | [] => Nat.le_refl _
  | c :: r => by
    have := penc_le sl r
    rw [pencGo, List.length_append, List.length_cons]
    split <;> simp only [List.length_cons, List.length_nil] <;> omega
theorem penc_app (sl : Bool) : ∀ a b : List UInt8, pencGo sl (a ++ b) = pencGo sl a ++ pencGo sl b
  | [], b => rfl
  | c :: r, b => by rw [List.cons_append, pencGo, pencGo, penc_app sl r b, List.append_assoc]
theorem penc_plain (sl : Bool) : ∀ a : List UInt8, (∀ c ∈ a, plainP c.toNat = true) → pencGo sl a = a
  | [], _ => rfl
  | c :: r, h => by
    rw [pencGo, if_pos (by rw [h c (by simp)]; rfl), penc_plain sl r fun x hx => h x (by simp [hx])]
    rfl
theorem cutAt_skip (c : UInt8) : ∀ (a b : List UInt8), (∀ x ∈ a, x ≠ c) → cutAt c (a ++ c :: b) = some (a, b)
  | [], b, _ => by simp [cutAt]
  | x :: r, b, h => by
    have hx : x ≠ c := h x (by simp)
    rw [List.cons_append, cutAt, if_neg hx, cutAt_skip c r b (fun y hy => h y (by simp [hy]))]
    rfl
theorem cutAt_no (c : UInt8) : ∀ (a : List UInt8), (∀ x ∈ a, x ≠ c) → cutAt c a = none
  | [], _ => rfl
  | x :: r, h => by
    rw [cutAt, if_neg (h x (by simp)), cutAt_no c r fun y hy => h y (by simp [hy])]
    rfl
theorem target_dec (p : List UInt8) : pdec false (47 :: pencGo true p) = some (47 :: p) := by
  rw [pdec_plain false 47 _ (by decide) (by decide), if_neg (by decide), if_neg (by decide), pdec_penc]
  rfl
theorem target_noq (p : List UInt8) (x : UInt8) (hx : x ∈ 47 :: pencGo true p) : x ≠ 63 := by
  rcases List.mem_cons.1 hx with rfl | hx
  · decide
  · exact (enc_byte true _ x hx).2.2
theorem target_plain (p : List UInt8) (h : p.length ≤ 600) : targetV (47 :: pencGo true p) = (⟨(47 :: p).toArray⟩, [], 0) := by
  have hc : cutF 63 (47 :: pencGo true p) = (47 :: pencGo true p, []) := by
    unfold cutF
    rw [cutAt_no 63 _ (target_noq p)]
    rfl
  have hl := penc_le true p
  unfold targetV
  rw [if_neg (by simp only [List.length_cons]; omega), hc]
  simp only [List.head?_cons, if_true, target_dec]
  rfl
theorem target_query (p q : List UInt8) (Q : List PairP) (h : p.length ≤ 600) (hq : queryV q = (Q, 0)) (hql : q.length ≤ 100) : targetV (47 :: (pencGo true p ++ 63 :: q)) = (⟨(47 :: p).toArray⟩, Q.map Pr.pairS, 0) := by
  have hc : cutF 63 (47 :: (pencGo true p ++ 63 :: q)) = (47 :: pencGo true p, q) := by
    unfold cutF
    have := cutAt_skip 63 (47 :: pencGo true p) q (target_noq p)
    rw [List.cons_append] at this
    rw [this]
    rfl
  have hl := penc_le true p
  unfold targetV
  rw [if_neg (by simp only [List.length_cons, List.length_append]; omega), hc]
  simp only [List.head?_cons, if_true, target_dec, hq]
theorem bkt_bytes : ∀ (l : List UInt8) (a b : Bool), bktGo l a b = true → ∀ c ∈ l, plainP c.toNat = true ∧ c ≠ 47
  | [], _, _, _ => by simp
  | c :: r, a, b, h => by
    have hh : ∀ i : Fin 256, (small i.1 || ((i.1 : Int) == 46 || (i.1 : Int) == 45)) = true → plainP i.1 = true ∧ UInt8.ofNat i.1 ≠ 47 := by decide +kernel
    have hc : (small c.toNat || ((c.toNat : Int) == 46 || (c.toNat : Int) == 45)) = true ∧ ∃ x y, bktGo r x y = true := by
      unfold bktGo at h
      split at h
      · rename_i h1
        exact ⟨by rw [h1]; rfl, _, _, h⟩
      · split at h
        · rename_i h1
          split at h
          · cases h
          · exact ⟨by rw [h1]; simp, _, _, h⟩
        · split at h
          · rename_i h1
            split at h
            · cases h
            · exact ⟨by rw [h1]; simp, _, _, h⟩
          · cases h
    obtain ⟨h1, x, y, h2⟩ := hc
    have h3 := hh ⟨c.toNat, c.toNat_lt⟩ h1
    intro z hz
    rcases List.mem_cons.1 hz with rfl | hz
    · simpa using h3
    · exact bkt_bytes r x y h2 z hz
theorem bucket_bytes {B : ByteArray} (h : bucketB B = true) : (∀ c ∈ B.data.toList, plainP c.toNat = true ∧ c ≠ 47) ∧ B.size ≤ 32 ∧ 3 ≤ B.size := by
  unfold bucketB at h
  split at h
  · cases h
  · rename_i hs
    exact ⟨bkt_bytes _ _ _ h, by omega, by omega⟩
/-- The path of a bucket and a key. -/
theorem about_path {B K : ByteArray} (hB : bucketB B = true) (hK : keyB K = true) : aboutP ⟨(47 :: (B.data.toList ++ 47 :: K.data.toList)).toArray⟩ = ((2, true), some (B, K)) := by
  obtain ⟨h1, h2, h3⟩ := bucket_bytes hB
  have hK1 : 1 ≤ K.size := by
    unfold keyB at hK
    simp only [Bool.and_eq_true, decide_eq_true_eq] at hK
    exact hK.2.1
  have hne : ¬ (⟨(47 :: (B.data.toList ++ 47 :: K.data.toList)).toArray⟩ : ByteArray) = ⟨#[47]⟩ := fun e => by
    have := congrArg ByteArray.size e
    rw [mk_size, show (⟨#[47]⟩ : ByteArray).size = 1 from rfl] at this
    simp only [List.length_cons, List.length_append] at this
    omega
  have hex : (⟨(47 :: (B.data.toList ++ 47 :: K.data.toList)).toArray⟩ : ByteArray).extract 1 (⟨(47 :: (B.data.toList ++ 47 :: K.data.toList)).toArray⟩ : ByteArray).size = ⟨(B.data.toList ++ 47 :: K.data.toList).toArray⟩ := by
    rw [ext_list, mk_list, mk_size]
    apply bs_ext
    rw [mk_list, mk_list, List.drop_succ_cons, List.drop_zero, List.take_of_length_le (by simp)]
  have hcut : cutB 47 ⟨(B.data.toList ++ 47 :: K.data.toList).toArray⟩ = (B, K, true) := by
    unfold cutB cutF
    rw [mk_list, cutAt_skip 47 _ _ fun x hx => (h1 x hx).2]
    simp
  have hKe : ¬ K = ⟨#[]⟩ := fun e => by rw [e] at hK1; exact absurd hK1 (by decide)
  unfold aboutP
  rw [if_neg hne, hex, hcut]
  simp only [hB, hK]
  simp [hKe]
theorem sameF_refl (c : CallP) (b : List Int) : sameF c b c b = true := by
  unfold sameF sameO Pr.stowagekit_SameCall.f Pr.stowagekit_SameBytes.f
  simp [Pr.stowagekit_SameCall.j0]
def hostL : List PairT := [⟨(⟨#[104, 111, 115, 116]⟩ : ByteArray), (⟨#[120]⟩ : ByteArray)⟩]
theorem hostL_eq : hsA ⟨#[]⟩ = hostL := by unfold hsA hostL; rw [if_pos rfl]
theorem host_range : findP (⟨#[114, 97, 110, 103, 101]⟩ : ByteArray) hostL = (⟨#[]⟩, false) := by decide +kernel
theorem ofP_key {m t path : ByteArray} {hs l : List PairT} {body : List UInt8} {B K : ByteArray} {q : ByteArray} {n : Int} {c : CallP} (h1 : targetV t.data.toList = (path, l, 0)) (h2 : aboutP path = ((2, true), some (B, K))) (h3 : qGo l ⟨#[]⟩ (theseP 2) = some q) (h4 : lookK (2, m, q) = some n)
    (h5 : besideP { zcall with kind := n, bucket := B, key := K } l hs = (c, true)) : ofP m t hs body = ((c, bodyK n body), 0) := by
  rw [ofP_go h1 h2, h3]
  show (match lookK (2, m, q) with
    | none => ((zcall, []), 390)
    | some k => if (besideP { setBK zcall (some (B, K)) with kind := k } l hs).2 = true then (((besideP { setBK zcall (some (B, K)) with kind := k } l hs).1, bodyK k body), 0) else ((zcall, []), 2)) = ((c, bodyK n body), (0 : Int))
  rw [h4]
  have h6 : besideP { setBK zcall (some (B, K)) with kind := n } l hs = (c, true) := h5
  simp only [h6]
  rfl
theorem tgt_eq (B K : ByteArray) (hB : bucketB B = true) : 47 :: (B.data.toList ++ 47 :: pencGo true K.data.toList) = 47 :: pencGo true (B.data.toList ++ 47 :: K.data.toList) := by
  rw [penc_app, penc_plain true B.data.toList fun c hc => ((bucket_bytes hB).1 c hc).1]
  rfl
/-- A key's target, by one of the methods. -/
theorem asks_key (m t bd B K : ByteArray) (n : Int) (l : List Int) (hB : bucketB B = true) (hK : keyB K = true) (ht : t.data.toList = 47 :: (B.data.toList ++ 47 :: pencGo true K.data.toList)) (h4 : lookK (2, m, ⟨#[]⟩) = some n) (h5 : ∀ c : CallP, c.kind = n → besideP c [] hostL = ({ c with version := ⟨#[]⟩ }, true) ∨ besideP c [] hostL = (c, true)) (hl : Pr.numsL (bodyK n bd.data.toList) = l) :
    asksB m t ⟨#[]⟩ bd { zcall with kind := n, bucket := B, key := K } l = true := by
  have hKs : K.size ≤ 120 := by
    unfold keyB at hK
    simp only [Bool.and_eq_true, decide_eq_true_eq] at hK
    exact hK.2.2
  have hBs := (bucket_bytes hB).2.1
  rw [bs_len] at hKs hBs
  have h1 := target_plain (B.data.toList ++ 47 :: K.data.toList) (by simp only [List.length_append, List.length_cons]; omega)
  rw [← tgt_eq B K hB, ← ht] at h1
  have h6 : besideP { zcall with kind := n, bucket := B, key := K } [] hostL = ({ zcall with kind := n, bucket := B, key := K }, true) := by
    rcases h5 { zcall with kind := n, bucket := B, key := K } rfl with h | h
    · rw [h]; rfl
    · exact h
  have ho := ofP_key (m := m) (body := bd.data.toList) h1 (about_path hB hK) (show qGo [] ⟨#[]⟩ (theseP 2) = some ⟨#[]⟩ from rfl) h4 h6
  unfold asksB
  rw [hostL_eq, ho]
  simp only [hl, sameF_refl]
  rfl
theorem asks_uploads (t bd B K : ByteArray) (hB : bucketB B = true) (hK : keyB K = true) (ht : t.data.toList = 47 :: (B.data.toList ++ 47 :: (pencGo true K.data.toList ++ ([63, 117, 112, 108, 111, 97, 100, 115] : List UInt8)))) :
    asksB (⟨#[80, 79, 83, 84]⟩ : ByteArray) t ⟨#[]⟩ bd { zcall with kind := 16, bucket := B, key := K } [] = true := by
  have hKs : K.size ≤ 120 := by
    unfold keyB at hK
    simp only [Bool.and_eq_true, decide_eq_true_eq] at hK
    exact hK.2.2
  have hBs := (bucket_bytes hB).2.1
  rw [bs_len] at hKs hBs
  have h1 := target_query (B.data.toList ++ 47 :: K.data.toList) ([117, 112, 108, 111, 97, 100, 115] : List UInt8) [(([117, 112, 108, 111, 97, 100, 115] : List UInt8), [])] (by simp only [List.length_append, List.length_cons]; omega) (by decide +kernel) (by decide)
  have he : t.data.toList = 47 :: (pencGo true (B.data.toList ++ 47 :: K.data.toList) ++ 63 :: ([117, 112, 108, 111, 97, 100, 115] : List UInt8)) := by
    have := tgt_eq B K hB
    have h2 := List.tail_eq_of_cons_eq this
    rw [ht, ← h2]
    simp
  rw [← he] at h1
  have ho := ofP_key (m := (⟨#[80, 79, 83, 84]⟩ : ByteArray)) (hs := hostL) (body := bd.data.toList) (n := 16) h1 (about_path hB hK) (show qGo _ ⟨#[]⟩ (theseP 2) = some (⟨#[117, 112, 108, 111, 97, 100, 115]⟩ : ByteArray) from by decide +kernel) (by decide +kernel) (show besideP { zcall with kind := 16, bucket := B, key := K } _ hostL = ({ zcall with kind := 16, bucket := B, key := K }, true) from rfl)
  unfold asksB
  rw [hostL_eq, ho]
  simp only [show bodyK 16 bd.data.toList = [] from rfl, show Pr.numsL [] = [] from rfl, sameF_refl]
  rfl
end Go.Proofs.YtehibiplodjofaaDoor
end
