/- Texts of this proof, put together: Ao, Ap. -/
import Derived.Test.YtehibiplodjofaaDoorMRouteOneu
import Derived.OpenShut
import Derived.ChangeSlices
import Derived.WideShapes
import Derived.ProofKit
section
/- Arguments that came in, opened into the print's kinds, kind by kind: plain, of no program. -/
namespace Go.Proofs.YtehibiplodjofaaDoor
open Go.ChangeShapes Go.WideShapes Go.ChangeAt Go.RowKit Go.Proofs.YtehibiplodjofaaDoorW.PrintWords Go.Proofs.YtehibiplodjofaaDoorW.PrintLast Go.Proofs.YtehibiplodjofaaDoorW.PrintMore
set_option linter.unusedVariables false
set_option linter.unusedSimpArgs false
theorem addr_addd (a : Addr) (i j : Nat) : (a.add i).add j = a.add (i + j) := by
  unfold Addr.add
  by_cases hi : i = 0
  · subst hi; simp
  · by_cases hj : j = 0
    · subst hj; simp
    · simp [hi, hj, Nat.add_assoc]
section
variable {H : Type} {enc : TypeId × Value → H} {P : Program} {w : World} {base : Nat} {spare : Nat → Bool} {held : Bool}
/-- Whatever of type t can be read as data is of the kind d, and G holds of it. -/
def Opens (enc : TypeId × Value → H) (P : Program) (w : World) (base : Nat) (spare : Nat → Bool) (held : Bool) {α : Type} (G : α → Prop) (d : Kd α) (t : TypeId) : Prop :=
  ∀ (fuel : Nat) (cs : List Value) (x : DataW H × List MemPlace), DataW.trod enc P w base spare held fuel t cs = some x → ∃ a, d.K w a cs ∧ G a
theorem opens_string {t : TypeId} (ht : P.underlying t = some .string) : Opens enc P w base spare held (fun s : ByteArray => s.size ≤ maxLen) Kd.string t := fun fuel cs x h => by
  obtain ⟨s, rfl, _, hs⟩ := DataW.trod_string ht h
  exact ⟨s, rfl, hs⟩
theorem opens_int {t : TypeId} {k : IntKind} (ht : P.underlying t = some (.int k)) : Opens enc P w base spare held (fun n : Int => (Lit.int k n).wf = true) (Kd.int k) t := fun fuel cs x h => by
  obtain ⟨n, rfl, _, hn⟩ := DataW.trod_int ht h
  exact ⟨n, rfl, hn⟩
theorem opens_row {α : Type} {G : α → Prop} {d : Kd α} {t e : TypeId} (ht : P.underlying t = some (.slice e)) (hc : P.cellsOf e = d.sz) (he : Opens enc P w base spare held G d e) {fuel : Nat} {cs : List Value} {x : DataW H × List MemPlace} (h : DataW.trod enc P w base spare held fuel t cs = some x) :
    ∃ (A : Option Addr) (c : Nat) (xs : List α), cs = [.slice A xs.length c] ∧ xs.length ≤ c ∧ d.C w A xs.length xs ∧ xs.length ≤ maxLen ∧ ∀ y ∈ xs, G y := by
  rcases DataW.trod_slice ht h with ⟨rfl, _⟩ | ⟨a, len, cap, elems, rest, n, _, rfl, _, _, hl, hm, hel, hat, _, _⟩
  · exact ⟨none, 0, [], rfl, Nat.le_refl _, ⟨rfl, by simp, fun h => by simp at h⟩, by simp, by simp⟩
  · have each : ∀ i : Fin len, ∃ y : α, (∃ c : List Value, c.length = d.sz ∧ d.K w y c ∧ ∀ j u, c[j]? = some u → w.cell? (a.add (i.1 * d.sz + j)) = some u) ∧ G y := fun i => by
      have hi := hat i.1 i.2
      rw [hc] at hi
      cases hcs : w.cells? base (a.add (i.1 * d.sz)) d.sz with
      | none => rw [hcs] at hi; rw [List.getElem?_eq_getElem (by omega)] at hi; cases hi
      | some c =>
        rw [hcs, Option.bind_some, List.getElem?_eq_getElem (by omega)] at hi
        obtain ⟨y, hy, hg⟩ := he n c _ hi
        obtain ⟨_, hlen, hcell⟩ := World.cells?_some hcs
        refine ⟨y, ⟨c, hlen, hy, fun j u hj => ?_⟩, hg⟩
        have hjl : j < d.sz := by rw [← hlen]; exact (List.getElem?_eq_some_iff.1 hj).1
        have := hcell j hjl
        rw [hj] at this
        rw [← this]
        rw [addr_addd]
    obtain ⟨f, hf⟩ := Classical.axiomOfChoice each
    refine ⟨some a, cap, List.ofFn f, by rw [List.length_ofFn], by rw [List.length_ofFn]; exact hl, ⟨rfl, by rw [List.length_ofFn]; unfold maxLen at hm; omega, fun _ => ⟨a, rfl, fun j p hj => ?_⟩⟩, by rw [List.length_ofFn]; omega, fun y hy => ?_⟩
    · obtain ⟨hlt, hp⟩ := List.getElem?_eq_some_iff.1 hj
      rw [List.length_ofFn] at hlt
      rw [List.getElem_ofFn] at hp
      subst hp
      exact (hf ⟨j, hlt⟩).1
    · obtain ⟨i, rfl⟩ := List.mem_ofFn.1 hy
      exact (hf i).2
theorem opens_slice {α : Type} {G : α → Prop} {d : Kd α} {t e : TypeId} (n : Nat) (ht : P.underlying t = some (.slice e)) (hc : P.cellsOf e = d.sz) (he : Opens enc P w base spare held G d e) :
    Opens enc P w base spare held (fun xs : List α => xs.length ≤ maxLen ∧ ∀ y ∈ xs, G y) (Kd.slice n d) t := fun fuel cs x h => by
  obtain ⟨A, c, xs, h1, h2, h3, h4, h5⟩ := opens_row ht hc he h
  exact ⟨xs, ⟨A, c, h1, h2, h3⟩, h4, h5⟩
/-- The fields of a struct, from a place on. -/
def OpensF (enc : TypeId × Value → H) (P : Program) (w : World) (base : Nat) (spare : Nat → Bool) (held : Bool) {α : Type} (G : α → Prop) (d : Kd α) (off : Nat) (fs : List Field) : Prop :=
  ∀ (cs : List Value), cs.length = off + d.sz → (∀ (i : Nat) (f : Field), fs[i]? = some f → ∃ fuel y, DataW.trod enc P w base spare held fuel f.type ((cs.drop f.offset).take (P.cellsOf f.type)) = some y) → ∃ a, d.K w a (cs.drop off) ∧ G a
theorem opensF_one {α : Type} {G : α → Prop} {d : Kd α} {off : Nat} {f : Field} (ho : f.offset = off) (hc : P.cellsOf f.type = d.sz) (h : Opens enc P w base spare held G d f.type) : OpensF enc P w base spare held G d off [f] := fun cs hl hf => by
  obtain ⟨fuel, y, hy⟩ := hf 0 f rfl
  rw [ho, hc, List.take_of_length_le (by simp; omega)] at hy
  exact h fuel _ y hy
theorem opensF_cons {α β : Type} {G : α → Prop} {G' : β → Prop} {d : Kd α} {d' : Kd β} {off : Nat} {f : Field} {fs : List Field} (ho : f.offset = off) (hc : P.cellsOf f.type = d.sz) (h : Opens enc P w base spare held G d f.type) (h' : OpensF enc P w base spare held G' d' (off + d.sz) fs) :
    OpensF enc P w base spare held (fun p : α × β => G p.1 ∧ G' p.2) (Kd.pair d d') off (f :: fs) := fun cs hl hf => by
  have hl' : cs.length = off + (d.sz + d'.sz) := hl
  obtain ⟨fuel, y, hy⟩ := hf 0 f rfl
  rw [ho, hc] at hy
  obtain ⟨a, ha, ga⟩ := h fuel _ y hy
  obtain ⟨b, hb, gb⟩ := h' cs (by omega) (fun i g hg => hf (i + 1) g hg)
  refine ⟨(a, b), ⟨_, _, ?_, ha, hb⟩, ga, gb⟩
  rw [← List.drop_drop, List.take_append_drop]
theorem opens_struct {α β : Type} {G : α → Prop} {d : Kd α} {t : TypeId} {fs : Array Field} (g : β → α) (s : α → β) (hs : ∀ a, g (s a) = a) (ht : P.underlying t = some (.struct fs)) (hc : P.cellsOf t = d.sz) (h : OpensF enc P w base spare held G d 0 fs.toList) :
    Opens enc P w base spare held (fun b : β => G (g b)) (Kd.iso d g) t := fun fuel cs x hx => by
  obtain ⟨xs, n, _, _, hl, hxl, hf⟩ := DataW.trod_struct ht hx
  obtain ⟨a, ha, ga⟩ := h cs (by omega) (fun i f hi => by
    have hi' : fs[i]? = some f := by simpa using hi
    have := hf i f hi'
    have hil : i < xs.length := by rw [hxl]; exact (Array.getElem?_eq_some_iff.1 hi').1
    rw [List.getElem?_eq_getElem hil] at this
    exact ⟨n, _, this⟩)
  exact ⟨s a, by show d.K w (g (s a)) cs; rw [hs]; simpa using ha, by show G (g (s a)); rw [hs]; exact ga⟩
/-- An argument that is a struct. -/
theorem open_agg {α : Type} {G : α → Prop} {d : Kd α} {t : TypeId} {fs : Array Field} {r : Reach} {b0 : Nat} {v : Value} {dd : DataW H} {p : List MemPlace} (ht : P.underlying t = some (.struct fs)) (ho : Opens enc P w base spare held G d t) (hv : Value.okWide P w r b0 t v) (h : DataW.Trod enc P w base spare held t v dd p) :
    ∃ (cs : List Value) (x : α), v = .agg cs.toArray ∧ d.K w x cs ∧ G x := by
  obtain ⟨cs, rfl, hsz⟩ := okWide_struct ht hv
  obtain ⟨fuel, hf⟩ := h
  obtain ⟨x, hx, gx⟩ := ho fuel _ _ hf
  exact ⟨cs.toList, x, by simp, by simpa [Value.cells] using hx, gx⟩
end
end Go.Proofs.YtehibiplodjofaaDoor
end
section
/- Lists of pairs that came in. -/
namespace Go.Proofs.YtehibiplodjofaaDoor
open Go.ChangeShapes Go.WideShapes Go.ChangeAt Go.RowKit Go.Proofs.YtehibiplodjofaaDoorW.PrintWords
set_option linter.unusedVariables false
section
variable {H : Type} {enc : TypeId × Value → H} {w : World} {base : Nat} {spare : Nat → Bool} {held : Bool}
theorem opens_pairK : Opens enc Tryd.prog w base spare held (fun b : Pr.S41 => b.f0.size ≤ maxLen ∧ b.f1.size ≤ maxLen) Pr.k41 41 :=
  opens_struct (fun x : Pr.S41 => (x.f0, x.f1)) (fun p => ⟨p.1, p.2⟩) (fun _ => rfl) Tryd.underlying41 (by kernel_rfl)
    (opensF_cons rfl (by kernel_rfl) (opens_string Tryd.underlying9) (opensF_one rfl (by kernel_rfl) (opens_string Tryd.underlying9)))
end
end Go.Proofs.YtehibiplodjofaaDoor
end
