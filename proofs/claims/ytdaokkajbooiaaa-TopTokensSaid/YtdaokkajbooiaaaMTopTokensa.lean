/- Texts of this proof, put together: Lp20, Lq20, Lr20, Pa20, Wa20. -/
import Derived.Sort.Walk0
section
/- Listing: the plain side: which items are listed; the order of texts. -/
namespace Go.Proofs.Ytdaokkajbooiaaa
set_option linter.unusedVariables false
set_option linter.unusedSimpArgs false
abbrev Bs := List UInt8
theorem lt_irr (a : Bs) : ¬ a < a := List.lt_irrefl a
theorem lt_trn {a b c : Bs} (h : a < b) (k : b < c) : a < c := List.lt_trans h k
theorem lt_tri (a b : Bs) : a < b ∨ a = b ∨ b < a := by
  by_cases h : a < b
  · exact .inl h
  · by_cases k : b < a
    · exact .inr (.inr k)
    · exact .inr (.inl (List.le_antisymm (List.not_lt.1 k) (List.not_lt.1 h)))
theorem lt_asy {a b : Bs} (h : a < b) : ¬ b < a := fun k => lt_irr a (lt_trn h k)
theorem lt_ne {a b : Bs} (h : a < b) : a ≠ b := fun e => lt_irr b (e ▸ h)
theorem nil_lt (a : Bs) (h : a ≠ []) : ([] : Bs) < a := by
  cases a with
  | nil => exact absurd rfl h
  | cons c r => exact List.nil_lt_cons c r
theorem not_lt_nil (a : Bs) : ¬ a < ([] : Bs) := List.not_lt_nil a
theorem lt_app (p a b : Bs) : p ++ a < p ++ b ↔ a < b := by
  induction p with
  | nil => simp
  | cons c r ih => simp [ih]
/-- What lies between two texts with a beginning in common has it, too. -/
theorem between : ∀ (c k1 k2 k3 : Bs), k1 < k2 → k2 < k3 → c <+: k1 → c <+: k3 → c <+: k2
  | [], _, _, _, _, _, _, _ => List.nil_prefix
  | x :: c, k1, k2, k3, h12, h23, h1, h3 => by
    obtain ⟨r1, rfl⟩ := h1
    obtain ⟨r3, rfl⟩ := h3
    cases k2 with
    | nil => exact absurd h12 (not_lt_nil _)
    | cons y k2 =>
      rw [List.cons_append] at h12 h23
      rw [List.cons_lt_cons_iff] at h12 h23
      have hxy : x = y := by
        rcases h12 with h | ⟨h, _⟩
        · rcases h23 with h' | ⟨h', _⟩
          · exact absurd (UInt8.lt_trans h h') (UInt8.lt_irrefl x)
          · exact absurd (h' ▸ h) (UInt8.lt_irrefl _)
        · exact h
      subst hxy
      have h12' : c ++ r1 < k2 := by
        rcases h12 with h | ⟨_, h⟩
        · exact absurd h (UInt8.lt_irrefl x)
        · exact h
      have h23' : k2 < c ++ r3 := by
        rcases h23 with h | ⟨_, h⟩
        · exact absurd h (UInt8.lt_irrefl x)
        · exact h
      have ih := between c (c ++ r1) k2 (c ++ r3) h12' h23' ⟨r1, rfl⟩ ⟨r3, rfl⟩
      obtain ⟨r, rfl⟩ := ih
      exact ⟨r, rfl⟩
theorem lt_of_prefix {c k : Bs} (h : c <+: k) (hne : c ≠ k) : c < k := by
  obtain ⟨r, rfl⟩ := h
  have hr : r ≠ [] := by rintro rfl; simp at hne
  have := (lt_app c [] r).2 (nil_lt r hr)
  simpa using this
/-! ### common prefixes -/
/-- What stands ahead of the first d in a text. -/
def headL (d : Bs) : Bs → Option Bs
  | [] => if d = [] then some [] else none
  | x :: r => if d <+: (x :: r) then some [] else (headL d r).map (x :: ·)
theorem headL_some (d : Bs) : ∀ l h, headL d l = some h → ∃ r, l = h ++ d ++ r
  | [], h, e => by
    unfold headL at e
    split at e
    · injection e with e; subst e; exact ⟨[], by simp [*]⟩
    · cases e
  | x :: r, h, e => by
    unfold headL at e
    split at e
    · rename_i hp
      injection e with e
      subst e
      obtain ⟨t, ht⟩ := hp
      exact ⟨t, by simp [ht]⟩
    · cases hh : headL d r with
      | none => simp [hh] at e
      | some h' =>
        simp only [hh, Option.map_some, Option.some.injEq] at e
        subst e
        obtain ⟨t, ht⟩ := headL_some d r h' hh
        exact ⟨t, by simp [ht]⟩
/-- It hangs on what stands up to the end of d alone. -/
theorem headL_app (d : Bs) (hd : d ≠ []) : ∀ l h, headL d l = some h → ∀ r, headL d (h ++ d ++ r) = some h
  | [], h, e, r => by
    unfold headL at e
    rw [if_neg hd] at e
    cases e
  | x :: l, h, e, r => by
    unfold headL at e
    split at e
    · injection e with e
      subst e
      cases hdr : d with
      | nil => exact absurd hdr hd
      | cons y t =>
        rw [List.nil_append, List.cons_append]
        unfold headL
        rw [if_pos ⟨r, by simp⟩]
    · rename_i hp
      cases hh : headL d l with
      | none => simp [hh] at e
      | some h' =>
        simp only [hh, Option.map_some, Option.some.injEq] at e
        subst e
        obtain ⟨t, ht⟩ := headL_some d l h' hh
        rw [List.cons_append, List.cons_append]
        unfold headL
        rw [if_neg, headL_app d hd l h' hh r]
        · rfl
        · rintro ⟨q, hq⟩
          apply hp
          rw [ht]
          -- d stands at the beginning of x :: (h' ++ d ++ r): its bytes lie within x :: (h' ++ d)
          have hlen : d.length ≤ (x :: (h' ++ d)).length := by simp; omega
          have e1 : (x :: (h' ++ d ++ r)).take d.length = d := by rw [← hq]; simp
          refine ⟨(x :: (h' ++ d ++ t)).drop d.length, ?_⟩
          have e2 : (x :: (h' ++ d ++ t)).take d.length = d := by
            rw [show x :: (h' ++ d ++ r) = (x :: (h' ++ d)) ++ r by simp, List.take_append_of_le_length hlen] at e1
            rw [show x :: (h' ++ d ++ t) = (x :: (h' ++ d)) ++ t by simp, List.take_append_of_le_length hlen]
            exact e1
          conv => lhs; lhs; rw [← e2]
          exact List.take_append_drop _ _
/-- The common prefix of a key that begins with a prefix. -/
def commonL (p d k : Bs) : Option Bs := if d = [] then none else (headL d (k.drop p.length)).map fun h => p ++ h ++ d
theorem commonL_some {p d k c : Bs} (hk : p <+: k) (h : commonL p d k = some c) : p <+: c ∧ c <+: k ∧ (∃ h, c = p ++ h ++ d) ∧ d ≠ [] ∧ ∀ k', c <+: k' → commonL p d k' = some c := by
  unfold commonL at h
  split at h
  · cases h
  rename_i hd
  cases hh : headL d (k.drop p.length) with
  | none => simp [hh] at h
  | some x =>
    simp only [hh, Option.map_some, Option.some.injEq] at h
    subst h
    obtain ⟨r, rfl⟩ := hk
    rw [List.drop_left] at hh
    obtain ⟨t, ht⟩ := headL_some d r x hh
    refine ⟨⟨x ++ d, by simp⟩, ⟨t, by simp [ht]⟩, ⟨x, rfl⟩, hd, ?_⟩
    rintro k' ⟨q, rfl⟩
    unfold commonL
    rw [if_neg hd]
    have e : (p ++ x ++ d ++ q).drop p.length = x ++ d ++ q := by simp
    rw [e, headL_app d hd r x hh q]
    rfl
end Go.Proofs.Ytdaokkajbooiaaa
end
section
/- Listing: the plain side: what is listed, by the program and by the reference; a page. -/
namespace Go.Proofs.Ytdaokkajbooiaaa
set_option linter.unusedVariables false
set_option linter.unusedSimpArgs false
structure Ver where
  id : Bs
  time : Int
  mark : Bool
  size : Int
  etag : Bs
deriving DecidableEq
def ver0 : Ver := ⟨[], 0, false, 0, []⟩
structure Ent where
  key : Bs
  vs : List Ver
deriving DecidableEq
structure Itm where
  name : Bs
  common : Bool
  v : Ver
  latest : Bool
deriving DecidableEq
/-- May these entries be, behind a key? -/
def okFrom : Option Bs → List Ent → Bool
  | _, [] => true
  | p, e :: r => !e.vs.isEmpty && (match p with | none => true | some q => decide (q < e.key)) && okFrom (some e.key) r
def firstV (e : Ent) : Ver := e.vs.headD ver0
/-- Is an entry passed over? -/
def skips (p : Bs) (versions : Bool) (e : Ent) : Bool := !(p.isPrefixOf e.key) || (!versions && (firstV e).mark)
def versItms (key : Bs) : Bool → List Ver → List Itm
  | _, [] => []
  | first, v :: r => ⟨key, false, v, first⟩ :: versItms key false r
def itemsOf (versions : Bool) (e : Ent) : List Itm := if versions then versItms e.key true e.vs else [⟨e.key, false, firstV e, false⟩]
def comItm (c : Bs) : Itm := ⟨c, true, ver0, false⟩
/-- What the program lists, the last common prefix being known. -/
def listP (p d : Bs) (versions : Bool) : Option Bs → List Ent → List Itm
  | _, [] => []
  | last, e :: r =>
    if skips p versions e then listP p d versions last r
    else match commonL p d e.key with
      | some c => if last = some c then listP p d versions last r else comItm c :: listP p d versions (some c) r
      | none => itemsOf versions e ++ listP p d versions last r
theorem okFrom_lt : ∀ (l : List Ent) (q : Bs), okFrom (some q) l = true → ∀ e ∈ l, q < e.key
  | [], _, _ => by simp
  | e :: r, q, h => by
    simp only [okFrom, Bool.and_eq_true, decide_eq_true_eq] at h
    intro x hx
    rcases List.mem_cons.1 hx with rfl | hx
    · exact h.1.2
    · exact lt_trn h.1.2 (okFrom_lt r e.key h.2 x hx)
theorem okFrom_tail {p : Option Bs} {e : Ent} {r : List Ent} (h : okFrom p (e :: r) = true) : okFrom (some e.key) r = true := by
  simp only [okFrom, Bool.and_eq_true] at h
  exact h.2
theorem okFrom_vs {p : Option Bs} {e : Ent} {r : List Ent} (h : okFrom p (e :: r) = true) : e.vs ≠ [] := by
  simp only [okFrom, Bool.and_eq_true] at h
  intro he
  rw [he] at h
  simp at h
theorem versItms_plain (key : Bs) : ∀ (b : Bool) (vs : List Ver), ∀ x ∈ versItms key b vs, x.common = false ∧ x.name = key
  | _, [], x, hx => by simp [versItms] at hx
  | b, v :: r, x, hx => by
    simp only [versItms, List.mem_cons] at hx
    rcases hx with rfl | hx
    · exact ⟨rfl, rfl⟩
    · exact versItms_plain key false r x hx
theorem itemsOf_plain {versions : Bool} {e : Ent} : ∀ x ∈ itemsOf versions e, x.common = false ∧ x.name = e.key := by
  unfold itemsOf
  split
  · exact versItms_plain _ _ _
  · intro x hx
    simp at hx
    subst hx
    exact ⟨rfl, rfl⟩
end Go.Proofs.Ytdaokkajbooiaaa
end
section
/- Listing: the plain side: a page. -/
namespace Go.Proofs.Ytdaokkajbooiaaa
set_option linter.unusedVariables false
set_option linter.unusedSimpArgs false
def takesP (after version : Bs) (beh : Bool) (x : Itm) : Bool := decide (after < x.name) || (decide (x.name = after) && !x.common && !version.isEmpty && beh)
def marksP (after version : Bs) (x : Itm) : Bool := decide (x.name = after) && !x.common && !version.isEmpty && decide (x.v.id = version)
/-- The program's page: what it has, and whether more is behind. -/
def runP (after version : Bs) (most : Nat) : Bool → List Itm → List Itm → List Itm × Bool
  | _, acc, [] => (acc, false)
  | beh, acc, x :: r =>
    if takesP after version beh x then (if acc.length = most then (acc, true) else runP after version most beh (acc ++ [x]) r)
    else runP after version most (beh || marksP after version x) acc r
def behindR (after version : Bs) : Bool → List Itm → List Itm
  | _, [] => []
  | met, x :: r => (if decide (after < x.name) || (met && decide (x.name = after)) then [x] else []) ++ behindR after version (met || marksP after version x) r
def cutP (most : Nat) (l : List Itm) : List Itm × Bool := if l.length ≤ most then (l, false) else (l.take most, true)
/-- Items of one name are alike: all are common prefixes, or none is. -/
def AlikeAt (after : Bs) (l : List Itm) : Prop := (∀ x ∈ l, x.name = after → x.common = false) ∨ (∀ x ∈ l, x.name = after → x.common = true)
theorem runP_eq (after version : Bs) (most : Nat) : ∀ (l : List Itm) (beh : Bool) (acc : List Itm), acc.length ≤ most → (version = [] → beh = false) →
    ((∀ x ∈ l, x.name = after → x.common = false) ∨ ((∀ x ∈ l, x.name = after → x.common = true) ∧ beh = false)) →
    runP after version most beh acc l = if acc.length + (behindR after version beh l).length ≤ most then (acc ++ behindR after version beh l, false) else (acc ++ (behindR after version beh l).take (most - acc.length), true)
  | [], beh, acc, ha, _, _ => by simp [runP, behindR, ha]
  | x :: r, beh, acc, ha, hv, hA => by
    unfold runP behindR
    have hr : ∀ b : Bool, (b = true → beh = true ∨ marksP after version x = true) → ((∀ y ∈ r, y.name = after → y.common = false) ∨ ((∀ y ∈ r, y.name = after → y.common = true) ∧ b = false)) := fun b hb => by
      rcases hA with h | ⟨h, hbeh⟩
      · exact .inl fun y hy => h y (List.mem_cons_of_mem _ hy)
      · refine .inr ⟨fun y hy => h y (List.mem_cons_of_mem _ hy), ?_⟩
        cases b with
        | false => rfl
        | true =>
          rcases hb rfl with h1 | h1
          · rw [hbeh] at h1; cases h1
          · unfold marksP at h1
            simp only [Bool.and_eq_true, decide_eq_true_eq, Bool.not_eq_true'] at h1
            have := h x (List.mem_cons_self ..) h1.1.1.1
            rw [this] at h1
            simp at h1
    have ht : takesP after version beh x = (decide (after < x.name) || (beh && decide (x.name = after))) := by
      unfold takesP
      by_cases hn : x.name = after
      · rcases hA with h | ⟨h, hbeh⟩
        · have hc := h x (List.mem_cons_self ..) hn
          cases hb : beh with
          | false => simp
          | true =>
            have : version ≠ [] := fun e => by have := hv e; rw [hb] at this; cases this
            cases hver : version with
            | nil => exact absurd hver this
            | cons a b => simp [hn, hc]
        · simp [hbeh]
      · simp [hn]
    rw [ht]
    by_cases hT : (decide (after < x.name) || (beh && decide (x.name = after))) = true
    · have hm : (beh || marksP after version x) = true → beh = true ∨ marksP after version x = true := fun h => by simpa using h
      rw [if_pos hT, if_pos hT]
      have hmark : behindR after version (beh || marksP after version x) r = behindR after version beh r := by
        by_cases hmk : marksP after version x = true
        · cases hb : beh with
          | true => simp
          | false =>
            exfalso
            rw [hb] at hT
            simp at hT
            unfold marksP at hmk
            simp only [Bool.and_eq_true, decide_eq_true_eq] at hmk
            exact lt_ne hT hmk.1.1.1.symm
        · simp [hmk]
      rw [hmark]
      by_cases hfull : acc.length = most
      · rw [if_pos hfull, if_neg (by simp; omega)]
        simp [hfull]
      · rw [if_neg hfull, runP_eq after version most r beh (acc ++ [x]) (by simp; omega) hv (hr beh (fun h => .inl h))]
        simp only [List.length_append, List.length_cons, List.length_nil, List.singleton_append]
        by_cases hle : acc.length + ((behindR after version beh r).length + 1) ≤ most
        · rw [if_pos (by omega), if_pos (by first | omega | (simp; omega))]
          simp
        · rw [if_neg (by omega), if_neg (by first | omega | (simp; omega))]
          obtain ⟨n, hn⟩ : ∃ n, most - acc.length = n + 1 := ⟨most - acc.length - 1, by omega⟩
          rw [hn, show most - (acc.length + (0 + 1)) = n by omega]
          simp
    · rw [if_neg hT, if_neg hT, List.nil_append]
      exact runP_eq after version most r _ acc ha (fun e => by
        rw [hv e]
        simp [marksP, e]) (hr _ (fun h => by simpa using h))
theorem runP_cut (after version : Bs) (most : Nat) (l : List Itm) (h : AlikeAt after l) : runP after version most false [] l = cutP most (behindR after version false l) := by
  rw [runP_eq after version most l false [] (by simp) (fun _ => rfl) (by rcases h with h | h; exact .inl h; exact .inr ⟨h, rfl⟩)]
  unfold cutP
  simp
structure Pg where
  items : List Itm
  more : Bool
  next : Bs
  version : Bs
def pg0 : Pg := ⟨[], false, [], []⟩
def itm0 : Itm := ⟨[], false, ver0, false⟩
def mkPg (versions : Bool) (most : Nat) (r : List Itm × Bool) : Pg :=
  if r.2 then ⟨r.1, true, (r.1.getD (most - 1) itm0).name, if versions && !(r.1.getD (most - 1) itm0).common then (r.1.getD (most - 1) itm0).v.id else []⟩ else ⟨r.1, false, [], []⟩
/-- What is answered. -/
def pageV (versions : Bool) (l : List Ent) (p d after version : Bs) (most : Int) : Pg × Int :=
  if 400 < p.length ∨ 400 < d.length ∨ 400 < after.length ∨ 400 < version.length then (pg0, 3)
  else if okFrom none l = false then (pg0, 2)
  else if most < 1 ∨ 1000 < most then (pg0, 5)
  else (mkPg versions most.toNat (runP after version most.toNat false [] (listP p d versions none l)), 0)
/-- Where the items of a list come from. -/
theorem listP_from (p d : Bs) (versions : Bool) : ∀ (l : List Ent) (last : Option Bs), ∀ x ∈ listP p d versions last l,
    (x.common = true ∧ x = comItm x.name ∧ ∃ e ∈ l, p <+: e.key ∧ skips p versions e = false ∧ commonL p d e.key = some x.name) ∨
    (x.common = false ∧ ∃ e ∈ l, p <+: e.key ∧ skips p versions e = false ∧ commonL p d e.key = none ∧ x ∈ itemsOf versions e)
  | [], last, x, hx => by simp [listP] at hx
  | e :: r, last, x, hx => by
    have up : ∀ {L : Option Bs}, x ∈ listP p d versions L r → _ := fun {L} h => listP_from p d versions r L x h
    have lift : ((x.common = true ∧ x = comItm x.name ∧ ∃ e ∈ r, p <+: e.key ∧ skips p versions e = false ∧ commonL p d e.key = some x.name) ∨
      (x.common = false ∧ ∃ e ∈ r, p <+: e.key ∧ skips p versions e = false ∧ commonL p d e.key = none ∧ x ∈ itemsOf versions e)) →
      ((x.common = true ∧ x = comItm x.name ∧ ∃ e' ∈ e :: r, p <+: e'.key ∧ skips p versions e' = false ∧ commonL p d e'.key = some x.name) ∨
      (x.common = false ∧ ∃ e' ∈ e :: r, p <+: e'.key ∧ skips p versions e' = false ∧ commonL p d e'.key = none ∧ x ∈ itemsOf versions e')) := fun h => by
      rcases h with ⟨a, b, e', h1, h2⟩ | ⟨a, e', h1, h2⟩
      · exact .inl ⟨a, b, e', List.mem_cons_of_mem _ h1, h2⟩
      · exact .inr ⟨a, e', List.mem_cons_of_mem _ h1, h2⟩
    unfold listP at hx
    by_cases hs : skips p versions e = true
    · rw [if_pos hs] at hx
      exact lift (up hx)
    · rw [if_neg hs] at hx
      have hs' : skips p versions e = false := by simpa using hs
      have hp : p <+: e.key := by
        unfold skips at hs'
        simp only [Bool.or_eq_false_iff, Bool.not_eq_false'] at hs'
        exact List.isPrefixOf_iff_prefix.1 hs'.1
      cases hc : commonL p d e.key with
      | some c =>
        simp only [hc] at hx
        split at hx
        · exact lift (up hx)
        · rcases List.mem_cons.1 hx with rfl | hx
          · exact .inl ⟨rfl, rfl, e, List.mem_cons_self .., hp, hs', hc⟩
          · exact lift (up hx)
      | none =>
        simp only [hc] at hx
        rcases List.mem_append.1 hx with hx | hx
        · exact .inr ⟨(itemsOf_plain x hx).1, e, List.mem_cons_self .., hp, hs', hc, hx⟩
        · exact lift (up hx)
theorem listP_alike (p d : Bs) (versions : Bool) (l : List Ent) (last : Option Bs) (after : Bs) : AlikeAt after (listP p d versions last l) := by
  by_cases h : ∃ x ∈ listP p d versions last l, x.name = after ∧ x.common = true
  · obtain ⟨x, hx, hn, hc⟩ := h
    refine .inr fun y hy hyn => ?_
    rcases listP_from p d versions l last x hx with ⟨_, _, e, _, hp, _, hce⟩ | ⟨h, _⟩
    · rcases listP_from p d versions l last y hy with ⟨h, _⟩ | ⟨_, e', _, hp', _, hce', hi⟩
      · exact h
      · exfalso
        have hk := (itemsOf_plain y hi).2
        obtain ⟨_, _, _, _, hall⟩ := commonL_some hp hce
        have := hall e'.key (by rw [← hk, hyn, hn]; exact List.prefix_rfl)
        rw [hce'] at this
        cases this
    · rw [hc] at h; cases h
  · refine .inl fun y hy hyn => ?_
    cases hyc : y.common with
    | false => rfl
    | true => exact absurd ⟨y, hy, hyn, hyc⟩ h
end Go.Proofs.Ytdaokkajbooiaaa
end
section
/- Listing, plain: what is listed stands in order. -/
namespace Go.Proofs.Ytdaokkajbooiaaa
set_option linter.unusedVariables false
set_option linter.unusedSimpArgs false
theorem pre_le {c k : Bs} (h : c <+: k) : c = k ∨ c < k := by
  by_cases e : c = k
  · exact .inl e
  · exact .inr (lt_of_prefix h e)
theorem pre_lt {c k k2 : Bs} (h : c <+: k) (h2 : k < k2) : c < k2 := by
  rcases pre_le h with e | e
  · rw [e]; exact h2
  · exact lt_trn e h2
/-- A common prefix that is no text's ahead of it stands above that text. -/
theorem above_com {p d k1 k2 c : Bs} (hk2 : p <+: k2) (hc : commonL p d k2 = some c) (hlt : k1 < k2) (hno : commonL p d k1 ≠ some c) : k1 < c := by
  obtain ⟨_, h2, _, _, hall⟩ := commonL_some hk2 hc
  rcases lt_tri k1 c with h | h | h
  · exact h
  · exact absurd (hall k1 (by rw [h]; exact List.prefix_rfl)) hno
  · exact absurd (hall k1 (between c c k1 k2 h hlt List.prefix_rfl h2)) hno
theorem skip_pre {p : Bs} {b : Bool} {e : Ent} (h : skips p b e = false) : p <+: e.key := by
  unfold skips at h
  simp only [Bool.or_eq_false_iff, Bool.not_eq_false'] at h
  exact List.isPrefixOf_iff_prefix.1 h.1
theorem listP_up (p d : Bs) (b : Bool) : ∀ (es : List Ent) (q : Option Bs) (c k1 : Bs), okFrom q es = true → p <+: k1 → commonL p d k1 = some c → (∀ e ∈ es, k1 < e.key) → ∀ y ∈ listP p d b (some c) es, c < y.name
  | [], _, _, _, _, _, _, _, y, hy => by simp [listP] at hy
  | e :: r, q, c, k1, hok, hp1, hc1, hlt, y, hy => by
    have hr := okFrom_tail hok
    have hltr : ∀ x ∈ r, k1 < x.key := fun x hx => hlt x (List.mem_cons_of_mem _ hx)
    have hke := hlt e (List.mem_cons_self ..)
    have hck : c <+: k1 := (commonL_some hp1 hc1).2.1
    unfold listP at hy
    by_cases hs : skips p b e = true
    · rw [if_pos hs] at hy
      exact listP_up p d b r _ c k1 hr hp1 hc1 hltr y hy
    · rw [if_neg hs] at hy
      have hpe := skip_pre (by simpa using hs)
      cases hc : commonL p d e.key with
      | some c' =>
        simp only [hc] at hy
        split at hy
        · exact listP_up p d b r _ c k1 hr hp1 hc1 hltr y hy
        · rename_i hne
          have hcc : c < c' := pre_lt hck (above_com hpe hc hke (by rw [hc1]; exact hne))
          rcases List.mem_cons.1 hy with rfl | hy
          · exact hcc
          · exact lt_trn hcc (listP_up p d b r _ c' e.key hr hpe hc (okFrom_lt r e.key hr) y hy)
      | none =>
        simp only [hc] at hy
        rcases List.mem_append.1 hy with hy | hy
        · rw [(itemsOf_plain y hy).2]
          exact pre_lt hck hke
        · exact listP_up p d b r _ c k1 hr hp1 hc1 hltr y hy
theorem listP_above (p d : Bs) (b : Bool) (es : List Ent) (last : Option Bs) (k : Bs) (hk : commonL p d k = none) (hlt : ∀ e ∈ es, k < e.key) : ∀ y ∈ listP p d b last es, k < y.name := by
  intro y hy
  rcases listP_from p d b es last y hy with ⟨_, _, e, he, hp, _, hc⟩ | ⟨_, e, he, hp, _, _, hi⟩
  · exact above_com hp hc (hlt e he) (by rw [hk]; intro h; cases h)
  · rw [(itemsOf_plain y hi).2]
    exact hlt e he
def RI (b : Bool) (x y : Itm) : Prop := x.name < y.name ∨ (b = true ∧ x.name = y.name ∧ x.common = false ∧ y.common = false ∧ x.v.id ≠ y.v.id)
theorem versItms_pair (key : Bs) : ∀ (f : Bool) (vs : List Ver), (vs.map (·.id)).Pairwise (· ≠ ·) → (versItms key f vs).Pairwise (RI true)
  | _, [], _ => List.Pairwise.nil
  | f, v :: r, h => by
    rw [List.map_cons, List.pairwise_cons] at h
    unfold versItms
    refine List.Pairwise.cons (fun y hy => .inr ⟨rfl, ?_⟩) (versItms_pair key false r h.2)
    have hy2 := versItms_plain key false r y hy
    have hid : y.v.id ∈ r.map (·.id) := by
      clear h hy2
      revert hy
      generalize false = g
      induction r generalizing g with
      | nil => intro hy; simp [versItms] at hy
      | cons a r ih =>
        intro hy
        simp only [versItms, List.mem_cons] at hy
        rcases hy with rfl | hy
        · simp
        · have := ih false hy
          simp only [List.map_cons, List.mem_cons]
          exact .inr this
    exact ⟨hy2.2.symm, rfl, hy2.1, h.1 _ hid⟩
theorem listP_pair (p d : Bs) (b : Bool) : ∀ (es : List Ent) (q last : Option Bs), okFrom q es = true → (b = true → ∀ e ∈ es, (e.vs.map (·.id)).Pairwise (· ≠ ·)) → (listP p d b last es).Pairwise (RI b)
  | [], _, _, _, _ => List.Pairwise.nil
  | e :: r, q, last, hok, hu => by
    have hr := okFrom_tail hok
    have hur : b = true → ∀ x ∈ r, (x.vs.map (·.id)).Pairwise (· ≠ ·) := fun hb x hx => hu hb x (List.mem_cons_of_mem _ hx)
    unfold listP
    by_cases hs : skips p b e = true
    · rw [if_pos hs]
      exact listP_pair p d b r _ _ hr hur
    · rw [if_neg hs]
      have hpe := skip_pre (by simpa using hs)
      cases hc : commonL p d e.key with
      | some c =>
        simp only
        split
        · exact listP_pair p d b r _ _ hr hur
        · exact List.Pairwise.cons (fun y hy => .inl (listP_up p d b r _ c e.key hr hpe hc (okFrom_lt r e.key hr) y hy)) (listP_pair p d b r _ _ hr hur)
      | none =>
        simp only
        rw [List.pairwise_append]
        refine ⟨?_, listP_pair p d b r _ _ hr hur, fun x hx y hy => .inl ?_⟩
        · unfold itemsOf
          cases b with
          | true => exact versItms_pair e.key true e.vs (hu rfl e (List.mem_cons_self ..))
          | false => exact List.pairwise_singleton _ _
        · rw [(itemsOf_plain x hx).2]
          exact listP_above p d b r last e.key hc (okFrom_lt r e.key hr) y hy
/-- What the reference leaves out ahead of a place, and takes behind it. -/
def verOfI (b : Bool) (x : Itm) : Bs := if b && !x.common then x.v.id else []
theorem behindR_all (a v : Bs) (b : Bool) (met : Bool) : ∀ (B : List Itm), (∀ y ∈ B, a < y.name ∨ (met = true ∧ y.name = a)) → behindR a v met B = B
  | [], _ => rfl
  | y :: r, h => by
    rw [behindR]
    have hy := h y (List.mem_cons_self ..)
    have ht : (decide (a < y.name) || (met && decide (y.name = a))) = true := by
      rcases hy with h | ⟨h1, h2⟩
      · simp [h]
      · simp [h1, h2]
    rw [if_pos ht, behindR_all a v b _ r (fun z hz => by
      rcases h z (List.mem_cons_of_mem _ hz) with h | ⟨h1, h2⟩
      · exact .inl h
      · exact .inr ⟨by rw [h1]; rfl, h2⟩)]
    rfl
theorem behindR_none (a v : Bs) : ∀ (A R : List Itm), (∀ y ∈ A, ¬ a < y.name ∧ marksP a v y = false) → behindR a v false (A ++ R) = behindR a v false R
  | [], _, _ => rfl
  | y :: r, R, h => by
    obtain ⟨h1, h2⟩ := h y (List.mem_cons_self ..)
    rw [List.cons_append, behindR, h2]
    simp only [Bool.or_false, Bool.false_and, decide_eq_false h1, Bool.false_eq_true, if_false, List.nil_append]
    exact behindR_none a v r R (fun z hz => h z (List.mem_cons_of_mem _ hz))
theorem behindR_at (b : Bool) (A : List Itm) (x : Itm) (B : List Itm) (hp : (A ++ x :: B).Pairwise (RI b)) (hid : x.common = false → b = true → x.v.id ≠ []) : behindR x.name (verOfI b x) false (A ++ x :: B) = B := by
  rw [List.pairwise_append] at hp
  obtain ⟨_, h2, h3⟩ := hp
  rw [List.pairwise_cons] at h2
  have hxx : ¬ x.name < x.name := lt_irr _
  rw [behindR_none x.name _ A (x :: B) (fun y hy => ?_)]
  · rw [behindR]
    simp only [decide_eq_false hxx, Bool.false_and, Bool.or_false, Bool.false_or, Bool.false_eq_true, if_false, List.nil_append]
    refine behindR_all x.name _ b _ B (fun y hy => ?_)
    rcases h2.1 y hy with h | ⟨hb, hn, hxc, hyc, hne⟩
    · exact .inl h
    · refine .inr ⟨?_, hn.symm⟩
      have hne0 := hid hxc hb
      unfold marksP verOfI
      rw [hb, hxc]
      simp [hne0]
  · rcases h3 y hy x (List.mem_cons_self ..) with h | ⟨hb, hn, hyc, hxc, hne⟩
    · exact ⟨lt_asy h, by unfold marksP; rw [decide_eq_false (lt_ne h)]; rfl⟩
    · refine ⟨by rw [hn]; exact lt_irr _, ?_⟩
      unfold marksP verOfI
      rw [hb, hxc]
      simp [hne]
end Go.Proofs.Ytdaokkajbooiaaa
end
section
/- ListingWhole, plain: each key stands once among what is listed. -/
namespace Go.Proofs.Ytdaokkajbooiaaa
set_option linter.unusedVariables false
set_option linter.unusedSimpArgs false
/-- What is listed of keys: the items of a name. -/
def wholeL (p d : Bs) (es : List Ent) : List Itm := (listP p d false none es).filter fun x => decide ([] < x.name)
theorem pos_ne {a : Bs} : ([] : Bs) < a ↔ a ≠ [] := ⟨fun h e => by rw [e] at h; exact lt_irr _ h, nil_lt a⟩
theorem wholeL_mem {p d : Bs} {es : List Ent} {x : Itm} : x ∈ wholeL p d es ↔ x ∈ listP p d false none es ∧ x.name ≠ [] := by
  unfold wholeL
  rw [List.mem_filter, decide_eq_true_eq, pos_ne]
end Go.Proofs.Ytdaokkajbooiaaa
end
