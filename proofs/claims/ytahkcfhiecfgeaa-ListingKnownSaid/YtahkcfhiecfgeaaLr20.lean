/- Listing: the plain side: a page. -/
import Derived.Test.YtahkcfhiecfgeaaLq20
namespace Go.Proofs.Ytahkcfhiecfgeaa
set_option linter.unusedVariables false
set_option linter.unusedSimpArgs false
def takesP (after version : Bs) (beh : Bool) (x : Itm) : Bool := decide (after < x.name) || (decide (x.name = after) && !x.common && !version.isEmpty && beh)
def marksP (after version : Bs) (x : Itm) : Bool := decide (x.name = after) && !x.common && !version.isEmpty && decide (x.v.id = version)
/-- The program's page: what it has, and whether more is behind. -/
def runP (after version : Bs) (most : Nat) : Bool → List Itm → List Itm → List Itm × Bool
  | _, acc, [] => (acc, false)
  | beh, acc, x :: r =>
    if takesP after version beh x then (if acc.length = most then (acc, true) else runP after version most beh (acc ++ [x]) r)
    else runP after version most (beh || marksP after version x) acc r
def behindR (after version : Bs) : Bool → List Itm → List Itm
  | _, [] => []
  | met, x :: r => (if decide (after < x.name) || (met && decide (x.name = after)) then [x] else []) ++ behindR after version (met || marksP after version x) r
def cutP (most : Nat) (l : List Itm) : List Itm × Bool := if l.length ≤ most then (l, false) else (l.take most, true)
/-- Items of one name are alike: all are common prefixes, or none is. -/
def AlikeAt (after : Bs) (l : List Itm) : Prop := (∀ x ∈ l, x.name = after → x.common = false) ∨ (∀ x ∈ l, x.name = after → x.common = true)
theorem runP_eq (after version : Bs) (most : Nat) : ∀ (l : List Itm) (beh : Bool) (acc : List Itm), acc.length ≤ most → (version = [] → beh = false) →
    ((∀ x ∈ l, x.name = after → x.common = false) ∨ ((∀ x ∈ l, x.name = after → x.common = true) ∧ beh = false)) →
    runP after version most beh acc l = if acc.length + (behindR after version beh l).length ≤ most then (acc ++ behindR after version beh l, false) else (acc ++ (behindR after version beh l).take (most - acc.length), true)
  | [], beh, acc, ha, _, _ => by simp [runP, behindR, ha]
  | x :: r, beh, acc, ha, hv, hA => by
    unfold runP behindR
    have hr : ∀ b : Bool, (b = true → beh = true ∨ marksP after version x = true) → ((∀ y ∈ r, y.name = after → y.common = false) ∨ ((∀ y ∈ r, y.name = after → y.common = true) ∧ b = false)) := fun b hb => by
      rcases hA with h | ⟨h, hbeh⟩
      · exact .inl fun y hy => h y (List.mem_cons_of_mem _ hy)
      · refine .inr ⟨fun y hy => h y (List.mem_cons_of_mem _ hy), ?_⟩
        cases b with
        | false => rfl
        | true =>
          rcases hb rfl with h1 | h1
          · rw [hbeh] at h1; cases h1
          · unfold marksP at h1
            simp only [Bool.and_eq_true, decide_eq_true_eq, Bool.not_eq_true'] at h1
            have := h x (List.mem_cons_self ..) h1.1.1.1
            rw [this] at h1
            simp at h1
    have ht : takesP after version beh x = (decide (after < x.name) || (beh && decide (x.name = after))) := by
      unfold takesP
      by_cases hn : x.name = after
      · rcases hA with h | ⟨h, hbeh⟩
        · have hc := h x (List.mem_cons_self ..) hn
          cases hb : beh with
          | false => simp
          | true =>
            have : version ≠ [] := fun e => by have := hv e; rw [hb] at this; cases this
            cases hver : version with
            | nil => exact absurd hver this
            | cons a b => simp [hn, hc]
        · simp [hbeh]
      · simp [hn]
    rw [ht]
    by_cases hT : (decide (after < x.name) || (beh && decide (x.name = after))) = true
    · have hm : (beh || marksP after version x) = true → beh = true ∨ marksP after version x = true := fun h => by simpa using h
      rw [if_pos hT, if_pos hT]
      have hmark : behindR after version (beh || marksP after version x) r = behindR after version beh r := by
        by_cases hmk : marksP after version x = true
        · cases hb : beh with
          | true => simp
          | false =>
            exfalso
            rw [hb] at hT
            simp at hT
            unfold marksP at hmk
            simp only [Bool.and_eq_true, decide_eq_true_eq] at hmk
            exact lt_ne hT hmk.1.1.1.symm
        · simp [hmk]
      rw [hmark]
      by_cases hfull : acc.length = most
      · rw [if_pos hfull, if_neg (by simp; omega)]
        simp [hfull]
      · rw [if_neg hfull, runP_eq after version most r beh (acc ++ [x]) (by simp; omega) hv (hr beh (fun h => .inl h))]
        simp only [List.length_append, List.length_cons, List.length_nil, List.singleton_append]
        by_cases hle : acc.length + ((behindR after version beh r).length + 1) ≤ most
        · rw [if_pos (by omega), if_pos (by first | omega | (simp; omega))]
          simp
        · rw [if_neg (by omega), if_neg (by first | omega | (simp; omega))]
          obtain ⟨n, hn⟩ : ∃ n, most - acc.length = n + 1 := ⟨most - acc.length - 1, by omega⟩
          rw [hn, show most - (acc.length + (0 + 1)) = n by omega]
          simp
    · rw [if_neg hT, if_neg hT, List.nil_append]
      exact runP_eq after version most r _ acc ha (fun e => by
        rw [hv e]
        simp [marksP, e]) (hr _ (fun h => by simpa using h))
theorem runP_cut (after version : Bs) (most : Nat) (l : List Itm) (h : AlikeAt after l) : runP after version most false [] l = cutP most (behindR after version false l) := by
  rw [runP_eq after version most l false [] (by simp) (fun _ => rfl) (by rcases h with h | h; exact .inl h; exact .inr ⟨h, rfl⟩)]
  unfold cutP
  simp
structure Pg where
  items : List Itm
  more : Bool
  next : Bs
  version : Bs
def pg0 : Pg := ⟨[], false, [], []⟩
def itm0 : Itm := ⟨[], false, ver0, false⟩
def mkPg (versions : Bool) (most : Nat) (r : List Itm × Bool) : Pg :=
  if r.2 then ⟨r.1, true, (r.1.getD (most - 1) itm0).name, if versions && !(r.1.getD (most - 1) itm0).common then (r.1.getD (most - 1) itm0).v.id else []⟩ else ⟨r.1, false, [], []⟩
/-- What is answered. -/
def pageV (versions : Bool) (l : List Ent) (p d after version : Bs) (most : Int) : Pg × Int :=
  if 400 < p.length ∨ 400 < d.length ∨ 400 < after.length ∨ 400 < version.length then (pg0, 3)
  else if okFrom none l = false then (pg0, 2)
  else if most < 1 ∨ 1000 < most then (pg0, 5)
  else (mkPg versions most.toNat (runP after version most.toNat false [] (listP p d versions none l)), 0)
/-- Where the items of a list come from. -/
theorem listP_from (p d : Bs) (versions : Bool) : ∀ (l : List Ent) (last : Option Bs), ∀ x ∈ listP p d versions last l,
    (x.common = true ∧ x = comItm x.name ∧ ∃ e ∈ l, p <+: e.key ∧ skips p versions e = false ∧ commonL p d e.key = some x.name) ∨
    (x.common = false ∧ ∃ e ∈ l, p <+: e.key ∧ skips p versions e = false ∧ commonL p d e.key = none ∧ x ∈ itemsOf versions e)
  | [], last, x, hx => by simp [listP] at hx
  | e :: r, last, x, hx => by
    have up : ∀ {L : Option Bs}, x ∈ listP p d versions L r → _ := fun {L} h => listP_from p d versions r L x h
    have lift : ((x.common = true ∧ x = comItm x.name ∧ ∃ e ∈ r, p <+: e.key ∧ skips p versions e = false ∧ commonL p d e.key = some x.name) ∨
      (x.common = false ∧ ∃ e ∈ r, p <+: e.key ∧ skips p versions e = false ∧ commonL p d e.key = none ∧ x ∈ itemsOf versions e)) →
      ((x.common = true ∧ x = comItm x.name ∧ ∃ e' ∈ e :: r, p <+: e'.key ∧ skips p versions e' = false ∧ commonL p d e'.key = some x.name) ∨
      (x.common = false ∧ ∃ e' ∈ e :: r, p <+: e'.key ∧ skips p versions e' = false ∧ commonL p d e'.key = none ∧ x ∈ itemsOf versions e')) := fun h => by
      rcases h with ⟨a, b, e', h1, h2⟩ | ⟨a, e', h1, h2⟩
      · exact .inl ⟨a, b, e', List.mem_cons_of_mem _ h1, h2⟩
      · exact .inr ⟨a, e', List.mem_cons_of_mem _ h1, h2⟩
    unfold listP at hx
    by_cases hs : skips p versions e = true
    · rw [if_pos hs] at hx
      exact lift (up hx)
    · rw [if_neg hs] at hx
      have hs' : skips p versions e = false := by simpa using hs
      have hp : p <+: e.key := by
        unfold skips at hs'
        simp only [Bool.or_eq_false_iff, Bool.not_eq_false'] at hs'
        exact List.isPrefixOf_iff_prefix.1 hs'.1
      cases hc : commonL p d e.key with
      | some c =>
        simp only [hc] at hx
        split at hx
        · exact lift (up hx)
        · rcases List.mem_cons.1 hx with rfl | hx
          · exact .inl ⟨rfl, rfl, e, List.mem_cons_self .., hp, hs', hc⟩
          · exact lift (up hx)
      | none =>
        simp only [hc] at hx
        rcases List.mem_append.1 hx with hx | hx
        · exact .inr ⟨(itemsOf_plain x hx).1, e, List.mem_cons_self .., hp, hs', hc, hx⟩
        · exact lift (up hx)
theorem listP_alike (p d : Bs) (versions : Bool) (l : List Ent) (last : Option Bs) (after : Bs) : AlikeAt after (listP p d versions last l) := by
  by_cases h : ∃ x ∈ listP p d versions last l, x.name = after ∧ x.common = true
  · obtain ⟨x, hx, hn, hc⟩ := h
    refine .inr fun y hy hyn => ?_
    rcases listP_from p d versions l last x hx with ⟨_, _, e, _, hp, _, hce⟩ | ⟨h, _⟩
    · rcases listP_from p d versions l last y hy with ⟨h, _⟩ | ⟨_, e', _, hp', _, hce', hi⟩
      · exact h
      · exfalso
        have hk := (itemsOf_plain y hi).2
        obtain ⟨_, _, _, _, hall⟩ := commonL_some hp hce
        have := hall e'.key (by rw [← hk, hyn, hn]; exact List.prefix_rfl)
        rw [hce'] at this
        cases this
    · rw [hc] at h; cases h
  · refine .inl fun y hy hyn => ?_
    cases hyc : y.common with
    | false => rfl
    | true => exact absurd ⟨y, hy, hyn, hyc⟩ h
end Go.Proofs.Ytahkcfhiecfgeaa
