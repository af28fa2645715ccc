/- Listing: the plain side: what is listed, by the program and by the reference; a page. -/
import Derived.Test.YtahkcfhiecfgeaaLp20
namespace Go.Proofs.Ytahkcfhiecfgeaa
set_option linter.unusedVariables false
set_option linter.unusedSimpArgs false
structure Ver where
  id : Bs
  time : Int
  mark : Bool
  size : Int
  etag : Bs
deriving DecidableEq
def ver0 : Ver := ⟨[], 0, false, 0, []⟩
structure Ent where
  key : Bs
  vs : List Ver
deriving DecidableEq
structure Itm where
  name : Bs
  common : Bool
  v : Ver
  latest : Bool
deriving DecidableEq
/-- May these entries be, behind a key? -/
def okFrom : Option Bs → List Ent → Bool
  | _, [] => true
  | p, e :: r => !e.vs.isEmpty && (match p with | none => true | some q => decide (q < e.key)) && okFrom (some e.key) r
def firstV (e : Ent) : Ver := e.vs.headD ver0
/-- Is an entry passed over? -/
def skips (p : Bs) (versions : Bool) (e : Ent) : Bool := !(p.isPrefixOf e.key) || (!versions && (firstV e).mark)
def versItms (key : Bs) : Bool → List Ver → List Itm
  | _, [] => []
  | first, v :: r => ⟨key, false, v, first⟩ :: versItms key false r
def itemsOf (versions : Bool) (e : Ent) : List Itm := if versions then versItms e.key true e.vs else [⟨e.key, false, firstV e, false⟩]
def comItm (c : Bs) : Itm := ⟨c, true, ver0, false⟩
/-- What the program lists, the last common prefix being known. -/
def listP (p d : Bs) (versions : Bool) : Option Bs → List Ent → List Itm
  | _, [] => []
  | last, e :: r =>
    if skips p versions e then listP p d versions last r
    else match commonL p d e.key with
      | some c => if last = some c then listP p d versions last r else comItm c :: listP p d versions (some c) r
      | none => itemsOf versions e ++ listP p d versions last r
/-- What the reference lists, behind what is listed already. -/
def listR (p d : Bs) (versions : Bool) : List Itm → List Ent → List Itm
  | out, [] => out
  | out, e :: r =>
    if skips p versions e then listR p d versions out r
    else match commonL p d e.key with
      | some c => if out.getLast?.any (fun x => x.common && decide (x.name = c)) then listR p d versions out r else listR p d versions (out ++ [comItm c]) r
      | none => listR p d versions (out ++ itemsOf versions e) r
theorem okFrom_lt : ∀ (l : List Ent) (q : Bs), okFrom (some q) l = true → ∀ e ∈ l, q < e.key
  | [], _, _ => by simp
  | e :: r, q, h => by
    simp only [okFrom, Bool.and_eq_true, decide_eq_true_eq] at h
    intro x hx
    rcases List.mem_cons.1 hx with rfl | hx
    · exact h.1.2
    · exact lt_trn h.1.2 (okFrom_lt r e.key h.2 x hx)
theorem okFrom_tail {p : Option Bs} {e : Ent} {r : List Ent} (h : okFrom p (e :: r) = true) : okFrom (some e.key) r = true := by
  simp only [okFrom, Bool.and_eq_true] at h
  exact h.2
theorem okFrom_vs {p : Option Bs} {e : Ent} {r : List Ent} (h : okFrom p (e :: r) = true) : e.vs ≠ [] := by
  simp only [okFrom, Bool.and_eq_true] at h
  intro he
  rw [he] at h
  simp at h
theorem itemsOf_ne {versions : Bool} {e : Ent} (h : e.vs ≠ []) : itemsOf versions e ≠ [] := by
  unfold itemsOf
  split
  · cases hv : e.vs with
    | nil => exact absurd hv h
    | cons v r => simp [versItms]
  · simp
theorem versItms_plain (key : Bs) : ∀ (b : Bool) (vs : List Ver), ∀ x ∈ versItms key b vs, x.common = false ∧ x.name = key
  | _, [], x, hx => by simp [versItms] at hx
  | b, v :: r, x, hx => by
    simp only [versItms, List.mem_cons] at hx
    rcases hx with rfl | hx
    · exact ⟨rfl, rfl⟩
    · exact versItms_plain key false r x hx
theorem itemsOf_plain {versions : Bool} {e : Ent} : ∀ x ∈ itemsOf versions e, x.common = false ∧ x.name = e.key := by
  unfold itemsOf
  split
  · exact versItms_plain _ _ _
  · intro x hx
    simp at hx
    subst hx
    exact ⟨rfl, rfl⟩
/-- The program's last common prefix and the reference's last item agree. -/
def Agree (p d : Bs) (out : List Itm) (last : Option Bs) (l : List Ent) : Prop :=
  (∀ c, out.getLast?.any (fun x => x.common && decide (x.name = c)) = true → last = some c) ∧
  (∀ c, last = some c → out.getLast?.any (fun x => x.common && decide (x.name = c)) = true ∨ ∀ e ∈ l, p <+: e.key → commonL p d e.key ≠ some c) ∧
  (∀ c, last = some c → ∃ k1, p <+: k1 ∧ commonL p d k1 = some c ∧ ∀ e ∈ l, k1 < e.key)
theorem listR_eq (p d : Bs) (versions : Bool) : ∀ (l : List Ent) (q : Option Bs) (out : List Itm) (last : Option Bs), okFrom q l = true → Agree p d out last l → listR p d versions out l = out ++ listP p d versions last l
  | [], _, out, last, _, _ => by simp [listR, listP]
  | e :: r, q, out, last, hok, ⟨h1, h2, h3⟩ => by
    have hr := okFrom_tail hok
    have hlt := okFrom_lt r e.key hr
    have hvs := okFrom_vs hok
    unfold listR listP
    by_cases hs : skips p versions e = true
    · rw [if_pos hs, if_pos hs]
      refine listR_eq p d versions r _ out last hr ⟨h1, fun c hc => ?_, fun c hc => ?_⟩
      · rcases h2 c hc with h | h
        · exact .inl h
        · exact .inr fun x hx => h x (List.mem_cons_of_mem _ hx)
      · obtain ⟨k1, a, b, f⟩ := h3 c hc
        exact ⟨k1, a, b, fun x hx => f x (List.mem_cons_of_mem _ hx)⟩
    · rw [if_neg hs, if_neg hs]
      have hp : p <+: e.key := by
        unfold skips at hs
        simp only [Bool.or_eq_true, not_or, Bool.not_eq_true', Bool.not_eq_false] at hs
        exact List.isPrefixOf_iff_prefix.1 (by simpa using hs.1)
      cases hc : commonL p d e.key with
      | some c =>
        simp only
        by_cases hl : out.getLast?.any (fun x => x.common && decide (x.name = c)) = true
        · rw [if_pos hl, if_pos (h1 c hl)]
          refine listR_eq p d versions r _ out last hr ⟨h1, fun c' hc' => ?_, fun c' hc' => ?_⟩
          · rcases h2 c' hc' with h | h
            · exact .inl h
            · exact .inr fun x hx => h x (List.mem_cons_of_mem _ hx)
          · obtain ⟨k1, a, b, f⟩ := h3 c' hc'
            exact ⟨k1, a, b, fun x hx => f x (List.mem_cons_of_mem _ hx)⟩
        · have hne : last ≠ some c := fun hlast => by
            rcases h2 c hlast with h | h
            · exact hl h
            · exact h e (List.mem_cons_self ..) hp hc
          rw [if_neg hl, if_neg hne]
          rw [listR_eq p d versions r _ (out ++ [comItm c]) (some c) hr ⟨fun c' h' => by simpa [comItm] using h', fun c' h' => .inl (by cases h'; simp [comItm]), fun c' h' => by
            cases h'
            exact ⟨e.key, hp, hc, hlt⟩⟩]
          simp
      | none =>
        simp only
        have hi := itemsOf_ne (versions := versions) hvs
        have hlastp : ∃ x, (out ++ itemsOf versions e).getLast? = some x ∧ x.common = false := by
          have hne : out ++ itemsOf versions e ≠ [] := by simp [hi]
          refine ⟨_, List.getLast?_eq_some_getLast hne, ?_⟩
          rw [List.getLast_append_of_ne_nil hne hi]
          exact (itemsOf_plain _ (List.getLast_mem hi)).1
        obtain ⟨x, hx, hxc⟩ := hlastp
        have hno : ∀ c, (out ++ itemsOf versions e).getLast?.any (fun x => x.common && decide (x.name = c)) = false := fun c => by rw [hx]; simp [hxc]
        rw [listR_eq p d versions r _ (out ++ itemsOf versions e) last hr ⟨fun c h => (by rw [hno c] at h; cases h), fun c hlast => .inr fun y hy hpy hcy => ?_, fun c hlast => ?_⟩]
        · simp
        · obtain ⟨k1, a, b, f⟩ := h3 c hlast
          have hk1 := f e (List.mem_cons_self ..)
          have hey := hlt y hy
          obtain ⟨_, c1, _, _, _⟩ := commonL_some a b
          obtain ⟨_, c3, _, _, hall⟩ := commonL_some hpy hcy
          have := hall e.key (between c k1 e.key y.key hk1 hey c1 c3)
          rw [hc] at this
          cases this
        · obtain ⟨k1, a, b, f⟩ := h3 c hlast
          exact ⟨k1, a, b, fun x hx => f x (List.mem_cons_of_mem _ hx)⟩
theorem listed_eq (p d : Bs) (versions : Bool) (l : List Ent) (h : okFrom none l = true) : listR p d versions [] l = listP p d versions none l := by
  rw [listR_eq p d versions l none [] none h ⟨fun c h => (by simp at h), fun c h => (by cases h), fun c h => (by cases h)⟩]
  rfl
end Go.Proofs.Ytahkcfhiecfgeaa
