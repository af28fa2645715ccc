/- Texts of this proof, put together: Bld, P24, E24, P16. -/
import Derived.Test.YtehibiplodjofaaDoorProg
import Derived.Test.YtehibiplodjofaaDoorMRouteAbouta
import Derived.Test.YtehibiplodjofaaDoorMRouteAbouth
import Derived.Test.YtehibiplodjofaaDoorMRouteAboutd
import Derived.Test.YtehibiplodjofaaDoorMRouteAboutg
section
/- The contracts of strings.Builder's writers at this seat's translation: laid over the library's proofs. -/
namespace Go.Proofs.YtehibiplodjofaaDoor
open Go.RowKit Go.Shelf
set_option linter.unusedVariables false
set_option linter.unusedSimpArgs false
def bldRen : Go.Shelf.Ren := ⟨fun | 167 => 25 | 169 => 26 | 240 => 39 | 276 => 48 | n => n,
  fun | 0 => 0 | 3 => 3 | 4 => 4 | 5 => 5 | 9 => 9 | 20 => 20 | 37 => 24 | 70 => 58 | 72 => 60 | 75 => 62 | 80 => 65 | 127 => 83 | 164 => 91 | n => n, fun | n => n⟩
theorem bldX : Builder.Extra Tryd.prog bldRen := {
  sizeBuilder := by kernel_rfl
  liesBuilder := by kernel_rfl
  t5 := Tryd.underlying5
  a5 := Tryd.isAgg5
  z5 := Tryd.sizeOf5
  v5 := Tryd.zeroValue5
  infoByte := by kernel_rfl
  cellsByte := by kernel_rfl
  sizeByte := by kernel_rfl
  neB5 := by decide }
theorem bld167 : Go.Proofs.Lays.n167 Tryd.prog bldRen := {
  mixed := by kernel_rfl
  f167 := Tryd.func25.trans (congrArg some (by kernel_rfl))
  f240 := Tryd.func39.trans (congrArg some (by kernel_rfl))
  f276 := Tryd.func48.trans (congrArg some (by kernel_rfl))
  t0 := Tryd.underlying0
  a0 := Tryd.isAgg0
  z0 := Tryd.sizeOf0
  v0 := Tryd.zeroValue0
  t4 := Tryd.underlying4
  a4 := Tryd.isAgg4
  z4 := Tryd.sizeOf4
  v4 := Tryd.zeroValue4
  t5 := Tryd.underlying5
  a5 := Tryd.isAgg5
  z5 := Tryd.sizeOf5
  v5 := Tryd.zeroValue5
  t9 := Tryd.underlying9
  a9 := Tryd.isAgg9
  z9 := Tryd.sizeOf9
  v9 := Tryd.zeroValue9
  t20 := Tryd.underlying20
  a20 := Tryd.isAgg20
  z20 := Tryd.sizeOf20
  v20 := Tryd.zeroValue20
  t37 := Tryd.underlying24
  a37 := Tryd.isAgg24
  z37 := Tryd.sizeOf24
  v37 := Tryd.zeroValue24
  t70 := Tryd.underlying58
  a70 := Tryd.isAgg58
  z70 := Tryd.sizeOf58
  v70 := Tryd.zeroValue58
  t72 := Tryd.underlying60
  a72 := Tryd.isAgg60
  z72 := Tryd.sizeOf60
  v72 := Tryd.zeroValue60
  t75 := Tryd.underlying62
  a75 := Tryd.isAgg62
  z75 := Tryd.sizeOf62
  v75 := Tryd.zeroValue62
  t164 := Tryd.underlying91
  a164 := Tryd.isAgg91
  z164 := Tryd.sizeOf91
  v164 := Tryd.zeroValue91 }
/-- Block b holds a builder of the bytes l, whose buffer is block g. -/
def Bld (b : Nat) (g : Option Nat) (l : List UInt8) (w : World) : Prop :=
  ∃ p v, (p = .pointer none ∨ p = .pointer (some ⟨b, 0, none⟩)) ∧ w.heap[b]? = some (.cells #[p, v] 60 (0, 0)) ∧ w.ownsRow 0 5 1 v l.length (Lib.byteCells l) ∧ v.ownBlock = g ∧ g ≠ some b
theorem Bld.lt {b : Nat} {g : Option Nat} {l : List UInt8} {w : World} (h : Bld b g l w) : b < w.heap.size ∧ ∀ k, g = some k → k < w.heap.size := by
  obtain ⟨p, v, _, hb, hown, rfl, _⟩ := h
  exact ⟨(Array.getElem?_eq_some_iff.1 hb).1, fun k hk => (hown.lt k hk).2⟩
theorem Bld.keep {S : Nat → Prop} {b : Nat} {g : Option Nat} {l : List UInt8} {w w' : World} (h : Bld b g l w) (hk : Keeps S w w') (h1 : ¬ S b) (h2 : ∀ k, g = some k → ¬ S k) : Bld b g l w' := by
  have hl := h.lt
  obtain ⟨p, v, hp, hb, hown, rfl, hg⟩ := h
  refine ⟨p, v, hp, (hk.block b hl.1 h1).trans hb, ⟨hown.1, ?_⟩, rfl, hg⟩
  rcases hown.2 with hh | ⟨g, cap, cur, rfl, hbg, hgg, rest⟩
  · exact .inl hh
  · exact .inr ⟨g, cap, cur, rfl, hbg, (hk.block g (hl.2 g rfl) (h2 g rfl)).trans hgg, rest⟩
/-- A builder at or beyond block B, apart from the blocks of R. -/
def BldAt (B b : Nat) (R : List Nat) (l : List UInt8) (w : World) : Prop :=
  B ≤ w.heap.size ∧ (∀ r ∈ R, r < w.heap.size ∧ r ≠ b) ∧ B ≤ b ∧ ∃ g, Bld b g l w ∧ ∀ k, g = some k → B ≤ k ∧ k ∉ R
def Same (B : Nat) (R : List Nat) (w w' : World) : Prop := Below B w w' ∧ ∀ r ∈ R, w'.heap[r]? = w.heap[r]?
theorem Same.refl (B : Nat) (R : List Nat) (w : World) : Same B R w w := ⟨Below.refl _ _, fun _ _ => rfl⟩
theorem Same.trans {B : Nat} {R : List Nat} {a b c : World} (h : Same B R a b) (k : Same B R b c) : Same B R a c := ⟨h.1.trans k.1, fun r hr => (k.2 r hr).trans (h.2 r hr)⟩
theorem Same.cell {B : Nat} {R : List Nat} {w w' : World} (h : Same B R w w') {p : Addr} {u : Value} (hr : p.block ∈ R) (hc : w.cell? p = some u) : w'.cell? p = some u := heap_cell (h.2 _ hr) hc
theorem BldAt.new (W : World) (B : Nat) (hB : B ≤ W.heap.size) : BldAt B W.heap.size [] [] (W.alloc (.cells #[.pointer none, .slice none 0 0] 60)) :=
  ⟨by simp; omega, by simp, hB, none, ⟨.pointer none, .slice none 0 0, .inl rfl, by simp [World.alloc, -World.alloc_eq], ⟨by simp [Lib.byteCells], .inl ⟨rfl, rfl⟩⟩, rfl, by simp⟩, by simp⟩
/-- What is made behind it is apart from it. -/
theorem BldAt.more {B b : Nat} {R : List Nat} {l : List UInt8} {w w' : World} (h : BldAt B b R l w) (hb : Below w.heap.size w w') (hs : w.heap.size < w'.heap.size) : BldAt B b (w.heap.size :: R) l w' := by
  obtain ⟨hB, hR, hBb, g, hg, hk⟩ := h
  have hl := hg.lt
  refine ⟨by omega, ?_, hBb, g, hg.keep (Keeps.ofBelow (fun _ => False) hb) (by simp) (by simp), fun k e => ⟨(hk k e).1, ?_⟩⟩
  · intro r hr
    rcases List.mem_cons.1 hr with rfl | hr
    · exact ⟨hs, by omega⟩
    · exact ⟨by have := hR r hr; omega, (hR r hr).2⟩
  · have := hl.2 k e
    simp only [List.mem_cons, not_or]
    exact ⟨by omega, (hk k e).2⟩
theorem BldAt.below {B b : Nat} {R : List Nat} {l : List UInt8} {w w' : World} (h : BldAt B b R l w) (hb : Below w.heap.size w w') : BldAt B b R l w' := by
  obtain ⟨hB, hR, hBb, g, hg, hk⟩ := h
  have := hb.size
  exact ⟨by omega, fun r hr => ⟨by have := hR r hr; omega, (hR r hr).2⟩, hBb, g, hg.keep (Keeps.ofBelow (fun _ => False) hb) (by simp) (by simp), hk⟩
theorem bldAt_of {B b : Nat} {R : List Nat} {l l' : List UInt8} {w w' : World} {g g' : Option Nat} (h : BldAt B b R l w) (hg0 : ∀ k, g = some k → B ≤ k ∧ k ∉ R) (h' : Bld b g' l' w') (hg : g' = g ∨ ∃ k, g' = some k ∧ w.heap.size ≤ k)
    (hk : Keeps (fun k => k = b ∨ g = some k) w w') : BldAt B b R l' w' ∧ Same B R w w' := by
  obtain ⟨hB, hR, hBb, _⟩ := h
  have hs := hk.size
  refine ⟨⟨by omega, fun r hr => ⟨by have := hR r hr; omega, (hR r hr).2⟩, hBb, g', h', ?_⟩, hk.below hB ?_, fun r hr => hk.block r (hR r hr).1 ?_⟩
  · rcases hg with rfl | ⟨k, rfl, hk'⟩
    · exact hg0
    · intro j e
      cases e
      exact ⟨by omega, fun hm => by have := hR _ hm; omega⟩
  · rintro k hk' (rfl | e)
    · omega
    · have := (hg0 k e).1; omega
  · rintro (e | e)
    · exact (hR r hr).2 e
    · exact (hg0 r e).2 hr
theorem byteCells_snoc (l : List UInt8) (c : UInt8) : Lib.byteCells l ++ [.int .u8 (c.toNat : Int)] = Lib.byteCells (l ++ [c]) := by simp [Lib.byteCells]
/-- copyCheck: the builder is used, its bytes as they were. -/
theorem bld_check (b : Nat) (g : Option Nat) (l : List UInt8) (w : World) (h : Bld b g l w) (L : Go.Proofs.Lays.n240 Tryd.prog bldRen) :
    Calls Tryd.prog 39 #[.pointer (some ⟨b, 0, none⟩)] w fun e w' => e = .returned (.tuple #[]) ∧ (∃ v, w'.heap[b]? = some (.cells #[.pointer (some ⟨b, 0, none⟩), v] 60 (0, 0)) ∧ w'.ownsRow 0 5 1 v l.length (Lib.byteCells l) ∧ v.ownBlock = g) ∧ Keeps (fun k => k = b) w w' ∧ w'.heap.size = w.heap.size := by
  obtain ⟨p, v, hp, hb, hown, rfl, hne⟩ := h
  rcases hp with rfl | rfl
  · refine (Any.Builder_copyCheck_fresh L bldX.toX72 b w (by rw [Lib.cell_of_heap hb]; rfl) (by simp [World.shape?, hb]; rfl) (Lib.frozen_of_heap hb 0)).mono ?_
    rintro e w' ⟨rfl, rfl⟩
    refine ⟨rfl, ⟨v, ?_, ?_, rfl⟩, (Keeps.refl (fun k => k = b) w).setCell (p := ⟨b, 0, none⟩) (fun _ => rfl) _, by simp [World.setCell]⟩
    · simp [World.setCell, Array.getElem?_modify, hb]
    · refine ⟨hown.1, ?_⟩
      rcases hown.2 with hh | ⟨g, cap, cur, rfl, hbg, hgg, rest⟩
      · exact .inl hh
      · exact .inr ⟨g, cap, cur, rfl, hbg, by rw [Below.heap_setCell _ _ _ _ (fun e => hne (by simp [Value.ownBlock, e]))]; exact hgg, rest⟩
  · refine (Any.Builder_copyCheck_used L bldX.toX72 b w (by rw [Lib.cell_of_heap hb]; rfl)).mono ?_
    rintro e w' ⟨rfl, rfl⟩
    exact ⟨rfl, ⟨v, hb, hown, rfl⟩, Keeps.refl _ _, rfl⟩
theorem bld240 : Go.Proofs.Lays.n240 Tryd.prog bldRen := { bld167 with }
set_option maxHeartbeats 1000000 in
theorem bld_byte0 (b : Nat) (g : Option Nat) (l : List UInt8) (c : UInt8) (w : World) (h : Bld b g l w) (hl : l.length ≤ 100000000) :
    Calls Tryd.prog 25 #[.pointer (some ⟨b, 0, none⟩), .int .u8 c.toNat] w fun e w' => e = .returned .nilIface ∧
      ∃ g', Bld b g' (l ++ [c]) w' ∧ (g' = g ∨ ∃ k, g' = some k ∧ w.heap.size ≤ k) ∧ Keeps (fun k => k = b ∨ g = some k) w w' := by
  obtain ⟨i0, hi, hz0, hz1, hz2⟩ := info_parts infoU8
  have hne : g ≠ some b := by
    obtain ⟨p, v, _, _, _, rfl, hne⟩ := h
    exact hne
  have hbl := h.lt.1
  go_enter Tryd.func25, Tryd.ntmps25
  go_wp2_with (go_at_call 39; refine (bld_check b g l _ h bld240).mono ?_)
  rintro e w1 ⟨rfl, ⟨v, hbk, hown, rfl⟩, hk1, -⟩
  have hz := hk1.size
  have c0 : w1.cell? ⟨b, 0, none⟩ = some (.pointer (some ⟨b, 0, none⟩)) := by rw [Lib.cell_of_heap hbk]; rfl
  have c1 : w1.cell? ⟨b, 1, none⟩ = some v := by rw [Lib.cell_of_heap hbk]; rfl
  go_wp2_with (at_builtin; (refine wpList_append_own_at _ rfl _ _ 24 rfl 0 5 i0 (.int .u8 0) 1 1 Tryd.underlying24 hi hz0 hz1 hz2 rfl (by decide) _ _ _ rfl (hown.alloc _) ⟨w1.heap.size, 0, none⟩ 1 1 [.int .u8 c.toNat] rfl rfl ?c1 ?c2 ?c3 ?c4 ?c5 ?_))
  case c1 =>
    intro j u hj
    match j, hj with
    | 0, hj => simp at hj; subst hj; simp [Addr.add]
  case c2 => intro u hu; simp at hu; subst hu; rfl
  case c3 => unfold maxLen; omega
  case c4 => omega
  case c5 => simp
  intro v' w2 hown' hgrow _ hat
  have hb2 : w2.heap[b]? = some (.cells #[.pointer (some ⟨b, 0, none⟩), v] 60 (0, 0)) := by
    rw [hgrow.block b (by simp; omega) (fun e => hne e.symm), Lib.alloc_old w1 _ b (by omega)]
    exact hbk
  have d0 : w2.cell? ⟨b, 0, none⟩ = some (.pointer (some ⟨b, 0, none⟩)) := by rw [Lib.cell_of_heap hb2]; rfl
  have d1 : w2.cell? ⟨b, 1, none⟩ = some v := by rw [Lib.cell_of_heap hb2]; rfl
  have f1 : w2.frozen? ⟨b, 1, none⟩ = false := Lib.frozen_of_heap hb2 1
  obtain ⟨g, cap, rfl⟩ : ∃ g cap, v' = .slice (some ⟨g, 0, none⟩) (l.length + 1) cap := by
    rcases hown'.2 with ⟨_, h0⟩ | ⟨g, cap, cur, hv, _⟩
    · omega
    · exact ⟨g, cap, hv⟩
  have hgb : g ≠ b := by
    rintro rfl
    rcases hat with e | e
    · exact hne (e.symm.trans (by simp [Value.ownBlock]))
    · simp [Value.ownBlock] at e; omega
  go_wp2
  go_ret
  refine ⟨rfl, some g, ⟨_, .slice (some ⟨g, 0, none⟩) (l.length + 1) cap, .inr rfl, ?_, ?_, rfl, by simpa using hgb⟩, ?_, ?_⟩
  · simp [World.setCell, Array.getElem?_modify, hb2]
  · have hx := ownsRow_set hown' (a := ⟨b, 1, none⟩) (by simp [Value.ownBlock]; exact hgb) (.slice (some ⟨g, 0, none⟩) (l.length + 1) cap)
    rw [byteCells_snoc] at hx
    simpa using hx
  · rcases hat with e | e
    · exact .inl e
    · exact .inr ⟨_, e, by first | omega | (simp; omega)⟩
  · refine Keeps.setCell (S := fun k => k = b ∨ v.ownBlock = some k) ?_ (p := ⟨b, 1, none⟩) (fun _ => .inl rfl) _
    exact ((hk1.mono fun k _ hh => .inl hh).alloc _).grown hgrow fun k e _ => .inr e
theorem bld_int (B b : Nat) (R : List Nat) (l : List UInt8) (c : Int) (u : UInt8) (w : World) (h : BldAt B b R l w) (hl : l.length ≤ 100000000) (hu : (u.toNat : Int) = c) :
    Calls Tryd.prog 25 #[.pointer (some ⟨b, 0, none⟩), .int .u8 c] w fun e w' => e = .returned .nilIface ∧ BldAt B b R (l ++ [u]) w' ∧ Same B R w w' := by
  subst hu
  have h' := h
  obtain ⟨hB, hR, hBb, g, hg, hk⟩ := h'
  refine (bld_byte0 b g l u w hg hl).mono ?_
  rintro e w' ⟨rfl, g', h1, h2, h3⟩
  exact ⟨rfl, bldAt_of h hk h1 h2 h3⟩
theorem BldAt.isF {B b : Nat} {R : List Nat} {l : List UInt8} {w : World} (h : BldAt B b R l w) : Lib.IsBuilderF 60 5 B b (Lib.byteCells l) w := by
  obtain ⟨hB, hR, hBb, g, ⟨p, v, hp, hb, hown, rfl, hne⟩, hk⟩ := h
  have hF : Lib.BuilderAtF 60 5 B b p (Lib.byteCells l) w := by
    refine ⟨hBb, v, hb, ⟨by simp, ?_⟩, hne⟩
    rcases hown.2 with ⟨h1, h2⟩ | ⟨g, cap, cur, rfl, _, hgg, hnc, hcm, hcs, ht⟩
    · exact .inl ⟨h1, by simpa [Lib.byteCells] using h2⟩
    · exact .inr ⟨g, cap, cur, (0, 0), by simp [Lib.byteCells], (hk g rfl).1, hgg, by simp, by simpa [Lib.byteCells] using hnc, hcm, hcs, by simpa [Lib.byteCells] using ht⟩
  rcases hp with rfl | rfl
  · exact .inl hF
  · exact .inr hF
/-- String: the bytes; the builder is not written any more. -/
theorem bld_done (B b : Nat) (R : List Nat) (l : List UInt8) (w : World) (h : BldAt B b R l w) :
    Calls Tryd.prog 26 #[.pointer (some ⟨b, 0, none⟩)] w fun e w' => e = .returned (.string ⟨l.toArray⟩) ∧ Lib.IsBuilderF 60 5 B b (Lib.byteCells l) w' ∧ Below B w w' :=
  (Any.Builder_String_any_k Tryd.lays169 Tryd.Builder_Extra_169 B b l w h.isF h.1).mono fun e w' hh => ⟨hh.1, hh.2.1, hh.2.2.1⟩
end Go.Proofs.YtehibiplodjofaaDoor
end
section
/- The walks of package percent: texts decoded and encoded. -/
namespace Go.Proofs.YtehibiplodjofaaDoor
open Go.RowKit
set_option linter.unusedVariables false
set_option linter.unusedSimpArgs false
/-- A digit's number, of great letters too. -/
def hexM (n : Nat) : Int := if 48 ≤ n ∧ n ≤ 57 then (n : Int) - 48 else if 97 ≤ n ∧ n ≤ 102 then (n : Int) - 87 else if 65 ≤ n ∧ n ≤ 70 then (n : Int) - 55 else -1
theorem hexM_lo (n : Nat) : -1 ≤ hexM n := by unfold hexM; repeat' split; all_goals omega
theorem hexM_hi (n : Nat) : hexM n ≤ 15 := by unfold hexM; repeat' split; all_goals omega
def hexMB (a b : UInt8) : UInt8 := (16 * hexM a.toNat + hexM b.toNat).toNat.toUInt8
theorem hexMB_val (a b : UInt8) (ha : 0 ≤ hexM a.toNat) (hb : 0 ≤ hexM b.toNat) : 16 * hexM a.toNat + hexM b.toNat = ((hexMB a b).toNat : Int) := by
  have h1 := hexM_hi a.toNat
  have h2 := hexM_hi b.toNat
  unfold hexMB
  obtain ⟨n, hn⟩ := Int.eq_ofNat_of_zero_le (show 0 ≤ 16 * hexM a.toNat + hexM b.toNat by omega)
  rw [hn]
  simp
  omega
theorem hexMB_or (a b : UInt8) (ha : 0 ≤ hexM a.toNat) (hb : 0 ≤ hexM b.toNat) : bits .or .i64 (hexM a.toNat * 16) (hexM b.toNat) % 256 = ((hexMB a b).toNat : Int) := by
  have h1 := hexM_hi a.toNat
  have h2 := hexM_hi b.toNat
  rw [or_hex _ _ ha h1 hb h2, ← hexMB_val a b ha hb]
  omega
theorem hexMB_orw (a b : UInt8) (ha : 0 ≤ hexM a.toNat) (hb : 0 ≤ hexM b.toNat) : IntKind.u8.wrap (bits .or .i64 (IntKind.i64.wrap (hexM a.toNat * 16)) (hexM b.toNat)) = ((hexMB a b).toNat : Int) := by
  have h1 := hexM_hi a.toNat
  rw [IntWalk.i64_in _ (by omega), IntKind.wrap_u8]
  exact hexMB_or a b ha hb
theorem pdigit_any (c : UInt8) (w : World) : Calls Tryd.prog 41 #[.int .u8 c.toNat] w fun e w' => e = .returned (.int .i64 (hexM c.toNat)) ∧ w' = w := by
  have h256 := c.toNat_lt
  by_cases hu : 65 ≤ c.toNat ∧ c.toNat ≤ 70
  · obtain ⟨h1, h2⟩ := hu
    have g1 : (65 : Int) ≤ (c.toNat : Int) := by omega
    have g2 : (c.toNat : Int) ≤ 70 := by omega
    have hv : hexN (c + 32).toNat = hexM c.toNat := by
      have e : (c + 32).toNat = c.toNat + 32 := by rw [UInt8.toNat_add]; simp; omega
      rw [e]
      unfold hexN hexM
      repeat' split
      all_goals omega
    have hc : (c.toNat : Int) + 32 = ((c + 32).toNat : Int) := by rw [UInt8.toNat_add]; simp; omega
    have hi := idx_any (c + 32) w
    rw [hv, ← hc] at hi
    have HI := Lib.hid hi
    clear hi hv hc
    go_enter Tryd.func41, Tryd.ntmps41
    go_wp2_with (go_at_call 38; refine (Hid.out HI).mono ?_; rintro e w' ⟨rfl, rfl⟩)
    go_ret
    exact ⟨rfl, rfl⟩
  · have hv : hexN c.toNat = hexM c.toNat := by
      unfold hexN hexM
      repeat' split
      all_goals omega
    have hi := idx_any c w
    rw [hv] at hi
    have HI := Lib.hid hi
    clear hi hv
    by_cases h1 : 65 ≤ c.toNat
    · have h2 : ¬ c.toNat ≤ 70 := fun h => hu ⟨h1, h⟩
      go_enter Tryd.func41, Tryd.ntmps41
      go_wp2_with (go_at_call 38; refine (Hid.out HI).mono ?_; rintro e w' ⟨rfl, rfl⟩)
      all_goals try (exfalso; omega)
      go_ret
      exact ⟨rfl, rfl⟩
    · go_enter Tryd.func41, Tryd.ntmps41
      go_wp2_with (go_at_call 38; refine (Hid.out HI).mono ?_; rintro e w' ⟨rfl, rfl⟩)
      all_goals try (exfalso; omega)
      go_ret
      exact ⟨rfl, rfl⟩
theorem pdigit_l (c : UInt8) (w : World) : Calls Tryd.prog 41 #[.int .u8 c.toNat] w fun e w' => e = .returned (.int .i64 (hexM c.toNat)) ∧ w = w' := (pdigit_any c w).mono fun _ _ h => ⟨h.1, h.2.symm⟩
/-- What a text says. -/
def pdec (bl : Bool) : List UInt8 → Option (List UInt8)
  | [] => some []
  | c :: r => if c = 37 then
      (match r with
      | a :: b :: r' => if hexM a.toNat < 0 then none else if hexM b.toNat < 0 then none else (pdec bl r').map (hexMB a b :: ·)
      | _ => none)
    else if c = 43 ∧ bl = true then (pdec bl r).map (32 :: ·)
    else if c.toNat < 33 then none else if 126 < c.toNat then none else (pdec bl r).map (c :: ·)
theorem pdec_plus (r : List UInt8) : pdec true (43 :: r) = (pdec true r).map (32 :: ·) := by rw [pdec.eq_def]; simp
theorem pdec_plain (bl : Bool) (c : UInt8) (r : List UInt8) (h : c ≠ 37) (h2 : ¬ (c = 43 ∧ bl = true)) : pdec bl (c :: r) = if c.toNat < 33 then none else if 126 < c.toNat then none else (pdec bl r).map (c :: ·) := by
  rw [pdec.eq_def]; simp only; rw [if_neg h, if_neg h2]
theorem pdec_pct (bl : Bool) (a b : UInt8) (r : List UInt8) : pdec bl (37 :: a :: b :: r) = if hexM a.toNat < 0 then none else if hexM b.toNat < 0 then none else (pdec bl r).map (hexMB a b :: ·) := by rw [pdec.eq_def]; simp
theorem pdec_short (bl : Bool) (r : List UInt8) (h : r.length < 2) : pdec bl (37 :: r) = none := by
  rw [pdec.eq_def]
  match r, h with
  | [], _ => rfl
  | [a], _ => rfl
def PdR (bl : Bool) (s : ByteArray) (w : World) (v i : Value) (wr : World) : Prop :=
  ∃ (j : Nat) (acc : List UInt8), j ≤ s.size ∧ i = .int .i64 j ∧ acc.length ≤ j ∧ wr.ownsRow w.heap.size 5 1 v acc.length (Lib.byteCells acc) ∧ Below w.heap.size w wr ∧
    (pdec bl (s.data.toList.drop j)).map (acc ++ ·) = pdec bl s.data.toList
theorem ne37 {c : UInt8} {n : Nat} (hn : n < 256) (h : c ≠ UInt8.ofNat n) : ¬ (c.toNat : Int) = (n : Int) := fun e => h (by apply UInt8.toNat_inj.1; simp; omega)
set_option maxHeartbeats 2000000 in
set_option maxRecDepth 100000 in
theorem pdecoded_any (s : ByteArray) (bl : Bool) (w : World) (hs : s.size ≤ 1000000) :
    Calls Tryd.prog 28 #[.string s, .bool bl] w fun e w' => (pdec bl s.data.toList = none → e = .returned (.tuple #[.string ⟨#[]⟩, .bool false])) ∧
      (∀ l, pdec bl s.data.toList = some l → e = .returned (.tuple #[.string ⟨l.toArray⟩, .bool true])) ∧ Below w.heap.size w w' := by
  obtain ⟨i0, hi, hz0, hz1, hz2⟩ := info_parts infoU8
  go_enter Tryd.func28, Tryd.ntmps28
  go_wp2
  go_step3
  go_wp2
  go_step3
  go_wp2
  go_loopw [6, 7] (fun v i wr => PdR bl s w v i wr) (fun _ i _ => s.size - (intOf i).toNat)
  case atStart =>
    unfold PdR
    exact ⟨0, [], Nat.zero_le _, rfl, Nat.zero_le _, World.ownsRow_nil _ _ _ _, Below.refl _ _, by simp⟩
  case round =>
    obtain ⟨j, acc, hj, rfl, hac, hown, hb, h⟩ := hrel
    have H := Lib.hid h
    clear h
    have hz := hb.size
    by_cases hlt : j < s.size
    · obtain ⟨c, hc, hdr⟩ := next_at s j hlt
      have h256 := c.toNat_lt
      rw [hdr] at H
      by_cases hp : c = 37
      · subst hp
        by_cases h3 : j + 3 ≤ s.size
        · obtain ⟨a, ha, hda⟩ := next_at s (j + 1) (by omega)
          obtain ⟨b, hb0, hdb⟩ := next_at s (j + 1 + 1) (by omega)
          rw [hda, hdb, pdec_pct] at H
          have hb1 : s[j + 2]'(by omega) = b := hb0
          clear hdr hda hdb
          have a1 := hexM_lo a.toNat
          have a2 := hexM_hi a.toNat
          have b1 := hexM_lo b.toNat
          have b2 := hexM_hi b.toNat
          by_cases hA : hexM a.toNat < 0
          · go_wp2_with (go_at_call 41; refine (pdigit_l _ _).mono ?_; rintro e w' ⟨rfl, rfl⟩)
            have hn : pdec bl s.data.toList = none := by have h := H.out; rw [← h]; simp [hA]
            (try rw [Exit.noGoto_ret])
            go_ret2
            exact ⟨fun _ => rfl, fun l hl => (by rw [hl] at hn; cases hn), hb⟩
          · by_cases hB : hexM b.toNat < 0
            · go_wp2_with (go_at_call 41; refine (pdigit_l _ _).mono ?_; rintro e w' ⟨rfl, rfl⟩)
              all_goals try (exfalso; omega)
              have hn : pdec bl s.data.toList = none := by have h := H.out; rw [← h]; rw [if_neg (by omega), if_pos hB]; rfl
              (try rw [Exit.noGoto_ret])
              go_ret2
              exact ⟨fun _ => rfl, fun l hl => (by rw [hl] at hn; cases hn), hb⟩
            · go_wp2_with (go_at_call 41; refine (pdigit_l _ _).mono ?_; rintro e w' ⟨rfl, rfl⟩)
              all_goals try (exfalso; omega)
              have q1 : IntKind.i64.wrap ((j : Int) + 1) = (j : Int) + 1 := IntWalk.i64_in _ (by omega)
              have q2 : IntKind.i64.wrap ((j : Int) + 2) = (j : Int) + 2 := IntWalk.i64_in _ (by omega)
              have q3 : (0 : Int) ≤ (j : Int) + 1 ∧ (j : Int) + 1 < (s.size : Int) := by omega
              have q4 : (0 : Int) ≤ (j : Int) + 2 ∧ (j : Int) + 2 < (s.size : Int) := by omega
              have q5 : ((j : Int) + 1).toNat = j + 1 := by omega
              have q6 : ((j : Int) + 2).toNat = j + 2 := by omega
              go_region_law (first | (refine step_push rfl _ _ 24 rfl w.heap.size 5 i0 (.int .u8 0) 1 Tryd.underlying24 hi hz0 hz1 hz2 rfl _ _ _ rfl (World.ownsRow.alloc hown _) ⟨wr.heap.size, 0, none⟩ _ rfl (cell_new _ _ _) rfl (by omega) (by omega) (by simp; omega) ?_; intro v2 w2 hown2 hgrow hat) | (go_simp; go_at_call 41; refine (pdigit_l _ _).mono ?_; rintro e w' ⟨rfl, rfl⟩))
              all_goals
                have hb2 := (Below.drew (Below.alloc hb hz _)).grown hgrow (by simp; omega) (fun k hk => (hown.lt k hk).1)
                have hown3 := ownsRow_snoc hown2 (hexMB a b) (hexMB_orw a b (by omega) (by omega))
                clear hown hown2 hgrow hat q1 q2 q3 q4 q5 q6
                go_wp2
                go_roundw
                case rel =>
                  have HR : PdR bl s w v2 (.int .i64 ((j : Int) + 3)) w2 := by
                    have h := H.out
                    rw [if_neg (by omega), if_neg (by omega)] at h
                    exact ⟨j + 3, acc ++ [hexMB a b], by omega, by go_num, by simp; omega, hown3, hb2, by rw [← h]; cases pdec bl (s.data.toList.drop (j + 1 + 1 + 1)) <;> simp⟩
                  first | exact HR | ((repeat apply Exists.intro); refine ⟨HR, ?_⟩; first | rfl | (repeat' (first | apply And.intro | rfl)))
                case measure => simp [intOf]; omega
        · have hn : pdec bl (37 :: s.data.toList.drop (j + 1)) = none := pdec_short bl _ (by simp; omega)
          rw [hn] at H
          clear hdr hn
          go_wp2
          have hn : pdec bl s.data.toList = none := by have h := H.out; rw [← h]; rfl
          (try rw [Exit.noGoto_ret])
          go_ret2
          exact ⟨fun _ => rfl, fun l hl => (by rw [hl] at hn; cases hn), hb⟩
      · have hp' : ¬ (c.toNat : Int) = 37 := ne37 (n := 37) (by omega) hp
        by_cases hpl : c = 43 ∧ bl = true
        · obtain ⟨rfl, rfl⟩ := hpl
          rw [pdec_plus] at H
          clear hdr
          go_wp2_with (at_builtin; go_must (refine wpList_push rfl _ _ 24 rfl w.heap.size 5 i0 (.int .u8 0) 1 Tryd.underlying24 hi hz0 hz1 hz2 rfl _ _ _ rfl (World.ownsRow.alloc hown _) ⟨wr.heap.size, 0, none⟩ _ rfl (cell_new _ _ _) rfl (by omega) (by omega) (by simp; omega) ?_); intro v2 w2 hown2 hgrow hat)
          have hb2 := below_push0 hb (Nat.le_refl _) hgrow (fun k hk => (hown.lt k hk).1)
          have hown3 := ownsRow_snoc hown2 32 rfl
          clear hown hown2 hgrow hat
          go_wp2
          go_roundw
          case rel =>
            have HR : PdR true s w v2 (.int .i64 ((j : Int) + 1)) w2 := by
              have h := H.out
              exact ⟨j + 1, acc ++ [32], by omega, by go_num, by simp; omega, hown3, hb2, by rw [← h]; cases pdec true (s.data.toList.drop (j + 1)) <;> simp⟩
            first | exact HR | ((repeat apply Exists.intro); refine ⟨HR, ?_⟩; first | rfl | (repeat' (first | apply And.intro | rfl)))
          case measure => simp [intOf]; omega
        · rw [pdec_plain bl c _ hp hpl] at H
          clear hdr
          have hpb : bl = true → ¬ (c.toNat : Int) = 43 := fun e => ne37 (n := 43) (by omega) (fun h => hpl ⟨h, e⟩)
          cases bl with
          | true =>
            have hp2 := hpb rfl
            by_cases h1 : c.toNat < 33
            · go_wp2
              all_goals try (exfalso; omega)
              have hn : pdec true s.data.toList = none := by have h := H.out; rw [← h, if_pos h1]; rfl
              (try rw [Exit.noGoto_ret])
              go_ret2
              exact ⟨fun _ => rfl, fun l hl => (by rw [hl] at hn; cases hn), hb⟩
            · by_cases h2 : 126 < c.toNat
              · go_wp2
                all_goals try (exfalso; omega)
                have hn : pdec true s.data.toList = none := by have h := H.out; rw [← h, if_neg h1, if_pos h2]; rfl
                (try rw [Exit.noGoto_ret])
                go_ret2
                exact ⟨fun _ => rfl, fun l hl => (by rw [hl] at hn; cases hn), hb⟩
              · go_wp2_with (at_builtin; go_must (refine wpList_push rfl _ _ 24 rfl w.heap.size 5 i0 (.int .u8 0) 1 Tryd.underlying24 hi hz0 hz1 hz2 rfl _ _ _ rfl (World.ownsRow.alloc hown _) ⟨wr.heap.size, 0, none⟩ _ rfl (cell_new _ _ _) rfl (by omega) (by omega) (by simp; omega) ?_); intro v2 w2 hown2 hgrow hat)
                all_goals try (exfalso; omega)
                have hb2 := below_push0 hb (Nat.le_refl _) hgrow (fun k hk => (hown.lt k hk).1)
                have hown3 := ownsRow_snoc hown2 c rfl
                clear hown hown2 hgrow hat
                go_wp2
                go_roundw
                case rel =>
                  have HR : PdR true s w v2 (.int .i64 ((j : Int) + 1)) w2 := by
                    have h := H.out
                    rw [if_neg (by omega), if_neg (by omega)] at h
                    exact ⟨j + 1, acc ++ [c], by omega, by go_num, by simp; omega, hown3, hb2, by rw [← h]; cases pdec true (s.data.toList.drop (j + 1)) <;> simp⟩
                  first | exact HR | ((repeat apply Exists.intro); refine ⟨HR, ?_⟩; first | rfl | (repeat' (first | apply And.intro | rfl)))
                case measure => simp [intOf]; omega
          | false =>
            by_cases h1 : c.toNat < 33
            · go_wp2
              all_goals try (exfalso; omega)
              have hn : pdec false s.data.toList = none := by have h := H.out; rw [← h, if_pos h1]; rfl
              (try rw [Exit.noGoto_ret])
              go_ret2
              exact ⟨fun _ => rfl, fun l hl => (by rw [hl] at hn; cases hn), hb⟩
            · by_cases h2 : 126 < c.toNat
              · go_wp2
                all_goals try (exfalso; omega)
                have hn : pdec false s.data.toList = none := by have h := H.out; rw [← h, if_neg h1, if_pos h2]; rfl
                (try rw [Exit.noGoto_ret])
                go_ret2
                exact ⟨fun _ => rfl, fun l hl => (by rw [hl] at hn; cases hn), hb⟩
              · by_cases h43 : (c.toNat : Int) = 43
                all_goals
                  go_wp2_with (at_builtin; go_must (refine wpList_push rfl _ _ 24 rfl w.heap.size 5 i0 (.int .u8 0) 1 Tryd.underlying24 hi hz0 hz1 hz2 rfl _ _ _ rfl (World.ownsRow.alloc hown _) ⟨wr.heap.size, 0, none⟩ _ rfl (cell_new _ _ _) rfl (by omega) (by omega) (by simp; omega) ?_); intro v2 w2 hown2 hgrow hat)
                  all_goals try (exfalso; omega)
                  have hb2 := below_push0 hb (Nat.le_refl _) hgrow (fun k hk => (hown.lt k hk).1)
                  have hown3 := ownsRow_snoc hown2 c (by first | rfl | omega)
                  clear hown hown2 hgrow hat
                  go_wp2
                  go_roundw
                  case rel =>
                    have HR : PdR false s w v2 (.int .i64 ((j : Int) + 1)) w2 := by
                      have h := H.out
                      rw [if_neg (by omega), if_neg (by omega)] at h
                      exact ⟨j + 1, acc ++ [c], by omega, by go_num, by simp; omega, hown3, hb2, by rw [← h]; cases pdec false (s.data.toList.drop (j + 1)) <;> simp⟩
                    first | exact HR | ((repeat apply Exists.intro); refine ⟨HR, ?_⟩; first | rfl | (repeat' (first | apply And.intro | rfl)))
                  case measure => simp [intOf]; omega
    · rw [List.drop_of_length_le (by simp; omega)] at H
      have cb := conv_back (P := Tryd.prog) hown 24 9 Tryd.underlying24 Tryd.underlying5 Tryd.underlying9
      go_wp2
      (try rw [Exit.noGoto_ret])
      go_ret2
      have h := H.out
      simp [pdec] at h
      exact ⟨fun hn => (by rw [hn] at h; cases h), fun l hl => (by rw [hl] at h; cases h; rfl), hb⟩
end Go.Proofs.YtehibiplodjofaaDoor
end
section
/- The walks of package percent: Decode, Encode. -/
namespace Go.Proofs.YtehibiplodjofaaDoor
open Go.RowKit
set_option linter.unusedVariables false
set_option linter.unusedSimpArgs false
def plainP (c : Int) : Bool := decide (97 ≤ c ∧ c ≤ 122) || decide (65 ≤ c ∧ c ≤ 90) || decide (48 ≤ c ∧ c ≤ 57) || decide (c = 45) || decide (c = 46) || decide (c = 95) || decide (c = 126)
def pidx (n : Nat) : Int := if n = 45 then 0 else if n = 46 then 1 else if n = 95 then 2 else if n = 126 then 3 else -1
theorem pidx_index (c : UInt8) : Lib.indexByte [45, 46, 95, 126] c = pidx c.toNat := by
  have h : ∀ i : Fin 256, Lib.indexByte [45, 46, 95, 126] (UInt8.ofNat i.1) = pidx (UInt8.ofNat i.1).toNat := by decide +kernel
  have := h ⟨c.toNat, c.toNat_lt⟩
  simpa using this
theorem pidx_any (c : UInt8) (w : World) : Calls Tryd.prog 38 #[.string (⟨#[45, 46, 95, 126]⟩ : ByteArray), .int .u8 c.toNat] w fun e w' => e = .returned (.int .i64 (pidx c.toNat)) ∧ w = w' := by
  have h := Tryd.strings_IndexByte (⟨#[45, 46, 95, 126]⟩ : ByteArray) c.toNat w
  rw [show ((c.toNat : Int)).toNat.toUInt8 = c by simp] at h
  rw [show ((⟨#[45, 46, 95, 126]⟩ : ByteArray)).data.toList = ([45, 46, 95, 126] : List UInt8) from rfl, pidx_index] at h
  exact h.mono fun _ _ h => ⟨h.1, h.2.symm⟩
theorem plainP_any (c : UInt8) (w : World) : Calls Tryd.prog 24 #[.int .u8 c.toNat] w fun e w' => e = .returned (.bool (plainP c.toNat)) ∧ w = w' := by
  have h256 := c.toNat_lt
  have hp : (0 ≤ pidx c.toNat) ↔ (c.toNat : Int) = 45 ∨ (c.toNat : Int) = 46 ∨ (c.toNat : Int) = 95 ∨ (c.toNat : Int) = 126 := by
    unfold pidx
    repeat' split
    all_goals omega
  have HP := Lib.hid hp
  clear hp
  go_enter Tryd.func24, Tryd.ntmps24
  go_wp2_with (go_at_call 38; refine (pidx_any _ _).mono ?_; rintro e w' ⟨rfl, rfl⟩)
  all_goals (go_ret; refine ⟨ret_bool ?_, rfl⟩; have hp := HP.out; rw [Bool.eq_iff_iff]; simp only [plainP, decide_eq_true_eq, Bool.or_eq_true, true_iff]; omega)
def pencGo (sl : Bool) : List UInt8 → List UInt8
  | [] => []
  | c :: r => (if plainP c.toNat || sl && decide ((c.toNat : Int) = 47) then [c] else [37, hexD (c.toNat / 16), hexD (c.toNat % 16)]) ++ pencGo sl r
set_option maxHeartbeats 1000000 in
theorem pEncode_any (s : ByteArray) (sl : Bool) (w : World) (h2 : s.size ≤ 1000000) : Calls Tryd.prog 14 #[.string s, .bool sl] w fun e w' => e = .returned (.string ⟨(pencGo sl s.data.toList).toArray⟩) ∧ Below w.heap.size w w' := by
  obtain ⟨w3, c3, hcv, hc3, hb3, hsz, hcell⟩ := conv_bytes (P := Tryd.prog) (w.alloc (.cells #[.pointer none, .slice none 0 0] 60)) 9 24 5 s Tryd.underlying9 Tryd.underlying24 Tryd.underlying5
  simp only [World.size_alloc] at hcv hb3 hsz hcell
  have hB3 := (BldAt.new w _ (Nat.le_refl _)).more (by simpa using hb3) (by simpa using hsz)
  have hbw : Below w.heap.size w w3 := ((Below.refl _ w).alloc (Nat.le_refl _) _).trans (hb3.mono (by omega))
  simp only [World.size_alloc] at hB3
  go_enter Tryd.func14, Tryd.ntmps14
  go_wp2
  go_loopw [11] (fun i wr => ∃ (k : Nat) (l : List UInt8), k ≤ s.size ∧ l.length ≤ 3 * k ∧ i = .int .i64 k ∧ BldAt w.heap.size w.heap.size [w.heap.size + 1] l wr ∧ Same w.heap.size [w.heap.size + 1] w3 wr ∧
      Hid (l ++ pencGo sl (s.data.toList.drop k) = pencGo sl s.data.toList)) (fun i _ => s.size - (intOf i).toNat)
  case atStart => exact ⟨0, _, Nat.zero_le _, by simp, rfl, hB3, Same.refl _ _ _, Lib.hid (by simp)⟩
  case round =>
    obtain ⟨k, l, hk, hl, rfl, hBr, hSr, H⟩ := hrel
    by_cases hlt : k < s.size
    · have hc := hSr.cell (by simp) (hcell k hlt)
      obtain ⟨c, hcd, hdr⟩ := next_byte s k hlt
      have h256 : c.toNat < 256 := c.toNat_lt
      rw [hcd] at hc
      rw [hdr] at H
      clear hcd hdr hcell hcv
      by_cases hp : (plainP c.toNat || sl && decide ((c.toNat : Int) = 47)) = true
      · have H2 : Hid (l ++ [c] ++ pencGo sl (s.data.toList.drop (k + 1)) = pencGo sl s.data.toList) := Lib.hid (by have h := H.out; simp only [pencGo, if_pos hp] at h; simpa using h)
        have HP := Lib.hid hp
        clear hp
        by_cases hp1 : plainP c.toNat = true
        · go_wp2_with fail
          refine (plainP_any _ _).mono ?_
          rintro e w' ⟨rfl, rfl⟩
          go_wp2_with fail
          refine (bld_int _ _ _ _ _ c _ hBr (by omega) rfl).mono ?_
          rintro e w4 ⟨rfl, hB4, hS4⟩
          go_wp2
          go_roundw
          case rel => exact ⟨k + 1, _, by omega, by simp; omega, by go_num, hB4, hSr.trans hS4, H2⟩
          case measure => simp [intOf]; omega
        · have h47 : sl = true ∧ (c.toNat : Int) = 47 := by have h := HP.out; simp [hp1] at h; exact ⟨h.1, by omega⟩
          obtain ⟨rfl, h47⟩ := h47
          have hp1' : plainP c.toNat = false := by simpa using hp1
          have hu : (c.toNat : Int) = 47 := h47
          have HU := Lib.hid hu
          have hbt : ((c.toNat : Int) == 47) = true := by rw [hu]; rfl
          clear hp1 hu h47
          go_wp2_with fail
          refine (plainP_any _ _).mono ?_
          rintro e w' ⟨rfl, rfl⟩
          go_wp2_with fail
          all_goals try (exfalso; omega)
          refine (bld_int _ _ _ _ _ c _ hBr (by omega) rfl).mono ?_
          rintro e w4 ⟨rfl, hB4, hS4⟩
          go_wp2
          go_roundw
          case rel => exact ⟨k + 1, _, by omega, by simp; omega, by go_num, hB4, hSr.trans hS4, H2⟩
          case measure => simp [intOf]; omega
      · have H2 : Hid (l ++ [37] ++ [hexD (c.toNat / 16)] ++ [hexD (c.toNat % 16)] ++ pencGo sl (s.data.toList.drop (k + 1)) = pencGo sl s.data.toList) := Lib.hid (by have h := H.out; simp only [pencGo, if_neg hp] at h; simpa using h)
        have hp1' : plainP c.toNat = false := by simp at hp; exact hp.1
        have hsl : sl = true → ¬ (c.toNat : Int) = 47 := by intro e; simp [e] at hp; omega
        clear hp
        cases sl
        all_goals
          try have h47 := hsl rfl
          clear hsl
          go_wp2_with fail
          refine (plainP_any _ _).mono ?_
          rintro e w' ⟨rfl, rfl⟩
          go_wp2_with fail
          refine (bld_int _ _ _ _ 37 37 _ hBr (by omega) rfl).mono ?_
          rintro e w4 ⟨rfl, hB4, hS4⟩
          go_wp2_with fail
          refine (bld_int _ _ _ _ _ (hexD (c.toNat / 16)) _ hB4 (by simp; omega) (hexIx _ _)).mono ?_
          rintro e w5 ⟨rfl, hB5, hS5⟩
          go_wp2_with fail
          refine (bld_int _ _ _ _ _ (hexD (c.toNat % 16)) _ hB5 (by simp; omega) (hexIx _ _)).mono ?_
          rintro e w6 ⟨rfl, hB6, hS6⟩
          go_wp2
          go_roundw
          case rel => exact ⟨k + 1, _, by omega, by simp; omega, by go_num, hB6, ((hSr.trans hS4).trans hS5).trans hS6, H2⟩
          case measure => simp [intOf]; omega
    · rw [List.drop_of_length_le (by simp; omega)] at H
      have hfin : l = pencGo sl s.data.toList := by have h := H.out; simpa [pencGo] using h
      have HF := Lib.hid hfin
      clear hfin hcell hcv
      go_wp2_with fail
      refine (bld_done _ _ _ _ _ hBr).mono ?_
      rintro e w4 ⟨rfl, -, hb4⟩
      go_wp2
      go_ret
      exact ⟨ret_str (by rw [HF.out]), (hbw.trans hSr.1).trans hb4⟩
end Go.Proofs.YtehibiplodjofaaDoor
end
section
/- The walks of package name, and of the reference for it. -/
namespace Go.Proofs.YtehibiplodjofaaDoor
open Go.RowKit
set_option linter.unusedVariables false
set_option linter.unusedSimpArgs false
def small (c : Int) : Bool := decide (97 ≤ c ∧ c ≤ 122) || decide (48 ≤ c ∧ c ≤ 57)
theorem small_any (c : Int) (w : World) : Calls Tryd.prog 23 #[.int .u8 c] w fun e w' => e = .returned (.bool (small c)) ∧ w = w' := by
  go_enter Tryd.func23, Tryd.ntmps23
  go_wp2
  all_goals (go_ret; refine ⟨ret_bool ?_, rfl⟩; rw [Bool.eq_iff_iff]; simp [small]; try omega)
def bktGo : List UInt8 → Bool → Bool → Bool
  | [], dot, dash => !dot && !dash
  | c :: r, dot, dash => if small c.toNat then bktGo r false false else if (c.toNat : Int) == 46 then (if dot || dash then false else bktGo r true dash)
    else if (c.toNat : Int) == 45 then (if dot then false else bktGo r dot true) else false
def bucketB (s : ByteArray) : Bool := if s.size < 3 ∨ 32 < s.size then false else bktGo s.data.toList true false
set_option maxHeartbeats 400000 in
set_option maxRecDepth 100000 in
theorem bucket_any (s : ByteArray) (w : World) : Calls Tryd.prog 12 #[.string s] w fun e w' => e = .returned (.bool (bucketB s)) ∧ Below w.heap.size w w' := by
  obtain ⟨w1, c1, hcv, hc1, hb, hsz, hcell⟩ := conv_bytes (P := Tryd.prog) w 9 24 5 s Tryd.underlying9 Tryd.underlying24 Tryd.underlying5
  go_enter Tryd.func12, Tryd.ntmps12
  go_wp2
  all_goals first
    | (go_ret; refine ⟨ret_bool ?_, Below.refl _ _⟩; rw [Bool.eq_iff_iff]; simp [bucketB]; intros; omega)
    | skip
  go_loop [3, 4, 18] (fun dot dash i => ∃ (k : Nat) (d e : Bool), k ≤ s.size ∧ i = .int .i64 k ∧ dot = .bool d ∧ dash = .bool e ∧ Hid (bktGo (s.data.toList.drop k) d e = bucketB s)) (fun _ _ i => s.size - (intOf i).toNat)
  case atStart => exact ⟨0, true, false, Nat.zero_le _, rfl, rfl, rfl, Lib.hid (by simp [bucketB]; intros; omega)⟩
  case round =>
    obtain ⟨k, d, e, hk, rfl, rfl, rfl, H⟩ := hrel
    by_cases hlt : k < s.size
    · have hc := hcell k hlt
      obtain ⟨c, hcd, hdr⟩ := next_byte s k hlt
      rw [hcd] at hc
      rw [hdr] at H
      clear hcd hdr hcell hcv
      go_wp2_with (go_at_call 23; refine (small_any _ _).mono ?_; rintro e w' ⟨rfl, rfl⟩)
      all_goals first
        | (go_ret; refine ⟨ret_bool ?_, hb⟩; have h := H.out; simp [bktGo, *] at h; first | exact h | exact h.symm | (simp [← h]; done))
        | (go_round
           case rel => exact ⟨k + 1, _, _, by omega, by go_num, rfl, rfl, Lib.hid (by have h := H.out; simpa [bktGo, *] using h)⟩
           case measure => simp [intOf]; omega)
    · rw [List.drop_of_length_le (by simp; omega)] at H
      go_wp2
      all_goals (go_ret; refine ⟨ret_bool ?_, hb⟩; have h := H.out; simp [bktGo, *] at h; first | exact h | exact h.symm | (simp [← h]; done))
def plainN (c : Int) : Bool := decide (65 ≤ c ∧ c ≤ 90) || decide (c = 45) || decide (c = 95) || small c
def pathGo : List UInt8 → List UInt8
  | [] => []
  | c :: r => (if plainN c.toNat then [c] else [37, hexD (c.toNat / 16), hexD (c.toNat % 16)]) ++ pathGo r
def keyGo : List UInt8 → Bool
  | [] => true
  | c :: r => if (c.toNat : Int) < 32 then false else if 126 < (c.toNat : Int) then false else keyGo r
def keyB (s : ByteArray) : Bool := keyGo s.data.toList && decide (1 ≤ s.size ∧ s.size ≤ 120)
set_option maxHeartbeats 400000 in
set_option maxRecDepth 100000 in
theorem key_any (s : ByteArray) (w : World) (hs : s.size ≤ 1000000) : Calls Tryd.prog 13 #[.string s] w fun e w' => e = .returned (.bool (keyB s)) ∧ Below w.heap.size w w' := by
  obtain ⟨w1, c1, hcv, hc1, hb, hsz, hcell⟩ := conv_bytes (P := Tryd.prog) w 9 24 5 s Tryd.underlying9 Tryd.underlying24 Tryd.underlying5
  go_enter Tryd.func13, Tryd.ntmps13
  go_wp2
  go_loop [8] (fun i => ∃ (k : Nat), k ≤ s.size ∧ i = .int .i64 k ∧ Hid (keyGo (s.data.toList.drop k) = keyGo s.data.toList)) (fun i => s.size - (intOf i).toNat)
  case atStart => exact ⟨0, Nat.zero_le _, rfl, Lib.hid (by simp)⟩
  case round =>
    obtain ⟨k, hk, rfl, H⟩ := hrel
    by_cases hlt : k < s.size
    · have hc := hcell k hlt
      obtain ⟨c, hcd, hdr⟩ := next_byte s k hlt
      rw [hcd] at hc
      rw [hdr] at H
      clear hcd hdr hcell hcv
      go_wp2
      all_goals first
        | (go_ret; refine ⟨ret_bool ?_, hb⟩; have h := H.out; simp [keyGo, *] at h; simp [keyB, h]; try omega)
        | (go_round
           case rel => exact ⟨k + 1, by omega, by go_num, Lib.hid (by have h := H.out; rw [← h]; simp only [keyGo]; rw [if_neg (by omega), if_neg (by omega)])⟩
           case measure => simp [intOf]; omega)
    · rw [List.drop_of_length_le (by simp; omega)] at H
      go_wp2
      all_goals (go_ret; refine ⟨ret_bool ?_, hb⟩; have h := H.out; rw [Bool.eq_iff_iff]; simp [keyGo] at h; simp [keyB, h]; try omega)
end Go.Proofs.YtehibiplodjofaaDoor
end
