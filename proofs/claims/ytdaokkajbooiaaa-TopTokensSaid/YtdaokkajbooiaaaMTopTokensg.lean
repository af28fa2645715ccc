/- Texts of this proof, put together: Bld, Cut. -/
import Derived.Test.YtdaokkajbooiaaaProg
import Derived.Test.YtdaokkajbooiaaaMTopTokensb
import Derived.Test.YtdaokkajbooiaaaMTopTokense
import Derived.Test.YtdaokkajbooiaaaMTopTokensf
section
/- The contracts of strings.Builder's writers at this seat's translation: laid over the library's proofs. -/
namespace Go.Proofs.Ytdaokkajbooiaaa
open Go.RowKit Go.Shelf
set_option linter.unusedVariables false
set_option linter.unusedSimpArgs false
def bldRen : Go.Shelf.Ren := ⟨fun | 167 => 49 | 169 => 51 | 240 => 60 | 276 => 71 | n => n,
  fun | 0 => 0 | 3 => 3 | 4 => 4 | 5 => 5 | 9 => 9 | 20 => 20 | 37 => 69 | 70 => 82 | 72 => 84 | 75 => 86 | 80 => 93 | 127 => 106 | 164 => 111 | n => n, fun | n => n⟩
theorem bldX : Builder.Extra Try.prog bldRen := {
  sizeBuilder := by kernel_rfl
  liesBuilder := by kernel_rfl
  t5 := Try.underlying5
  a5 := Try.isAgg5
  z5 := Try.sizeOf5
  v5 := Try.zeroValue5
  infoByte := by kernel_rfl
  cellsByte := by kernel_rfl
  sizeByte := by kernel_rfl
  neB5 := by decide }
theorem bld167 : Go.Proofs.Lays.n167 Try.prog bldRen := {
  mixed := by kernel_rfl
  f167 := Try.func49.trans (congrArg some (by kernel_rfl))
  f240 := Try.func60.trans (congrArg some (by kernel_rfl))
  f276 := Try.func71.trans (congrArg some (by kernel_rfl))
  t0 := Try.underlying0
  a0 := Try.isAgg0
  z0 := Try.sizeOf0
  v0 := Try.zeroValue0
  t4 := Try.underlying4
  a4 := Try.isAgg4
  z4 := Try.sizeOf4
  v4 := Try.zeroValue4
  t5 := Try.underlying5
  a5 := Try.isAgg5
  z5 := Try.sizeOf5
  v5 := Try.zeroValue5
  t9 := Try.underlying9
  a9 := Try.isAgg9
  z9 := Try.sizeOf9
  v9 := Try.zeroValue9
  t20 := Try.underlying20
  a20 := Try.isAgg20
  z20 := Try.sizeOf20
  v20 := Try.zeroValue20
  t37 := Try.underlying69
  a37 := Try.isAgg69
  z37 := Try.sizeOf69
  v37 := Try.zeroValue69
  t70 := Try.underlying82
  a70 := Try.isAgg82
  z70 := Try.sizeOf82
  v70 := Try.zeroValue82
  t72 := Try.underlying84
  a72 := Try.isAgg84
  z72 := Try.sizeOf84
  v72 := Try.zeroValue84
  t75 := Try.underlying86
  a75 := Try.isAgg86
  z75 := Try.sizeOf86
  v75 := Try.zeroValue86
  t164 := Try.underlying111
  a164 := Try.isAgg111
  z164 := Try.sizeOf111
  v164 := Try.zeroValue111 }
/-- Block b holds a builder of the bytes l, whose buffer is block g. -/
def Bld (b : Nat) (g : Option Nat) (l : List UInt8) (w : World) : Prop :=
  ∃ p v, (p = .pointer none ∨ p = .pointer (some ⟨b, 0, none⟩)) ∧ w.heap[b]? = some (.cells #[p, v] 84 (0, 0)) ∧ w.ownsRow 0 5 1 v l.length (Lib.byteCells l) ∧ v.ownBlock = g ∧ g ≠ some b
theorem Bld.lt {b : Nat} {g : Option Nat} {l : List UInt8} {w : World} (h : Bld b g l w) : b < w.heap.size ∧ ∀ k, g = some k → k < w.heap.size := by
  obtain ⟨p, v, _, hb, hown, rfl, _⟩ := h
  exact ⟨(Array.getElem?_eq_some_iff.1 hb).1, fun k hk => (hown.lt k hk).2⟩
theorem Bld.keep {S : Nat → Prop} {b : Nat} {g : Option Nat} {l : List UInt8} {w w' : World} (h : Bld b g l w) (hk : Keeps S w w') (h1 : ¬ S b) (h2 : ∀ k, g = some k → ¬ S k) : Bld b g l w' := by
  have hl := h.lt
  obtain ⟨p, v, hp, hb, hown, rfl, hg⟩ := h
  refine ⟨p, v, hp, (hk.block b hl.1 h1).trans hb, ⟨hown.1, ?_⟩, rfl, hg⟩
  rcases hown.2 with hh | ⟨g, cap, cur, rfl, hbg, hgg, rest⟩
  · exact .inl hh
  · exact .inr ⟨g, cap, cur, rfl, hbg, (hk.block g (hl.2 g rfl) (h2 g rfl)).trans hgg, rest⟩
/-- A builder at or beyond block B, apart from the blocks of R. -/
def BldAt (B b : Nat) (R : List Nat) (l : List UInt8) (w : World) : Prop :=
  B ≤ w.heap.size ∧ (∀ r ∈ R, r < w.heap.size ∧ r ≠ b) ∧ B ≤ b ∧ ∃ g, Bld b g l w ∧ ∀ k, g = some k → B ≤ k ∧ k ∉ R
def Same (B : Nat) (R : List Nat) (w w' : World) : Prop := Below B w w' ∧ ∀ r ∈ R, w'.heap[r]? = w.heap[r]?
theorem Same.refl (B : Nat) (R : List Nat) (w : World) : Same B R w w := ⟨Below.refl _ _, fun _ _ => rfl⟩
theorem Same.trans {B : Nat} {R : List Nat} {a b c : World} (h : Same B R a b) (k : Same B R b c) : Same B R a c := ⟨h.1.trans k.1, fun r hr => (k.2 r hr).trans (h.2 r hr)⟩
theorem Same.cell {B : Nat} {R : List Nat} {w w' : World} (h : Same B R w w') {p : Addr} {u : Value} (hr : p.block ∈ R) (hc : w.cell? p = some u) : w'.cell? p = some u := heap_cell (h.2 _ hr) hc
theorem BldAt.new (W : World) (B : Nat) (hB : B ≤ W.heap.size) : BldAt B W.heap.size [] [] (W.alloc (.cells #[.pointer none, .slice none 0 0] 84)) :=
  ⟨by simp; omega, by simp, hB, none, ⟨.pointer none, .slice none 0 0, .inl rfl, by simp [World.alloc, -World.alloc_eq], ⟨by simp [Lib.byteCells], .inl ⟨rfl, rfl⟩⟩, rfl, by simp⟩, by simp⟩
/-- What is made behind it is apart from it. -/
theorem BldAt.more {B b : Nat} {R : List Nat} {l : List UInt8} {w w' : World} (h : BldAt B b R l w) (hb : Below w.heap.size w w') (hs : w.heap.size < w'.heap.size) : BldAt B b (w.heap.size :: R) l w' := by
  obtain ⟨hB, hR, hBb, g, hg, hk⟩ := h
  have hl := hg.lt
  refine ⟨by omega, ?_, hBb, g, hg.keep (Keeps.ofBelow (fun _ => False) hb) (by simp) (by simp), fun k e => ⟨(hk k e).1, ?_⟩⟩
  · intro r hr
    rcases List.mem_cons.1 hr with rfl | hr
    · exact ⟨hs, by omega⟩
    · exact ⟨by have := hR r hr; omega, (hR r hr).2⟩
  · have := hl.2 k e
    simp only [List.mem_cons, not_or]
    exact ⟨by omega, (hk k e).2⟩
theorem BldAt.below {B b : Nat} {R : List Nat} {l : List UInt8} {w w' : World} (h : BldAt B b R l w) (hb : Below w.heap.size w w') : BldAt B b R l w' := by
  obtain ⟨hB, hR, hBb, g, hg, hk⟩ := h
  have := hb.size
  exact ⟨by omega, fun r hr => ⟨by have := hR r hr; omega, (hR r hr).2⟩, hBb, g, hg.keep (Keeps.ofBelow (fun _ => False) hb) (by simp) (by simp), hk⟩
theorem bldAt_of {B b : Nat} {R : List Nat} {l l' : List UInt8} {w w' : World} {g g' : Option Nat} (h : BldAt B b R l w) (hg0 : ∀ k, g = some k → B ≤ k ∧ k ∉ R) (h' : Bld b g' l' w') (hg : g' = g ∨ ∃ k, g' = some k ∧ w.heap.size ≤ k)
    (hk : Keeps (fun k => k = b ∨ g = some k) w w') : BldAt B b R l' w' ∧ Same B R w w' := by
  obtain ⟨hB, hR, hBb, _⟩ := h
  have hs := hk.size
  refine ⟨⟨by omega, fun r hr => ⟨by have := hR r hr; omega, (hR r hr).2⟩, hBb, g', h', ?_⟩, hk.below hB ?_, fun r hr => hk.block r (hR r hr).1 ?_⟩
  · rcases hg with rfl | ⟨k, rfl, hk'⟩
    · exact hg0
    · intro j e
      cases e
      exact ⟨by omega, fun hm => by have := hR _ hm; omega⟩
  · rintro k hk' (rfl | e)
    · omega
    · have := (hg0 k e).1; omega
  · rintro (e | e)
    · exact (hR r hr).2 e
    · exact (hg0 r e).2 hr
theorem byteCells_snoc (l : List UInt8) (c : UInt8) : Lib.byteCells l ++ [.int .u8 (c.toNat : Int)] = Lib.byteCells (l ++ [c]) := by simp [Lib.byteCells]
/-- copyCheck: the builder is used, its bytes as they were. -/
theorem bld_check (b : Nat) (g : Option Nat) (l : List UInt8) (w : World) (h : Bld b g l w) (L : Go.Proofs.Lays.n240 Try.prog bldRen) :
    Calls Try.prog 60 #[.pointer (some ⟨b, 0, none⟩)] w fun e w' => e = .returned (.tuple #[]) ∧ (∃ v, w'.heap[b]? = some (.cells #[.pointer (some ⟨b, 0, none⟩), v] 84 (0, 0)) ∧ w'.ownsRow 0 5 1 v l.length (Lib.byteCells l) ∧ v.ownBlock = g) ∧ Keeps (fun k => k = b) w w' ∧ w'.heap.size = w.heap.size := by
  obtain ⟨p, v, hp, hb, hown, rfl, hne⟩ := h
  rcases hp with rfl | rfl
  · refine (Any.Builder_copyCheck_fresh L bldX.toX72 b w (by rw [Lib.cell_of_heap hb]; rfl) (by simp [World.shape?, hb]; rfl) (Lib.frozen_of_heap hb 0)).mono ?_
    rintro e w' ⟨rfl, rfl⟩
    refine ⟨rfl, ⟨v, ?_, ?_, rfl⟩, (Keeps.refl (fun k => k = b) w).setCell (p := ⟨b, 0, none⟩) (fun _ => rfl) _, by simp [World.setCell]⟩
    · simp [World.setCell, Array.getElem?_modify, hb]
    · refine ⟨hown.1, ?_⟩
      rcases hown.2 with hh | ⟨g, cap, cur, rfl, hbg, hgg, rest⟩
      · exact .inl hh
      · exact .inr ⟨g, cap, cur, rfl, hbg, by rw [Below.heap_setCell _ _ _ _ (fun e => hne (by simp [Value.ownBlock, e]))]; exact hgg, rest⟩
  · refine (Any.Builder_copyCheck_used L bldX.toX72 b w (by rw [Lib.cell_of_heap hb]; rfl)).mono ?_
    rintro e w' ⟨rfl, rfl⟩
    exact ⟨rfl, ⟨v, hb, hown, rfl⟩, Keeps.refl _ _, rfl⟩
theorem bld240 : Go.Proofs.Lays.n240 Try.prog bldRen := { bld167 with }
set_option maxHeartbeats 1000000 in
theorem bld_byte0 (b : Nat) (g : Option Nat) (l : List UInt8) (c : UInt8) (w : World) (h : Bld b g l w) (hl : l.length ≤ 100000000) :
    Calls Try.prog 49 #[.pointer (some ⟨b, 0, none⟩), .int .u8 c.toNat] w fun e w' => e = .returned .nilIface ∧
      ∃ g', Bld b g' (l ++ [c]) w' ∧ (g' = g ∨ ∃ k, g' = some k ∧ w.heap.size ≤ k) ∧ Keeps (fun k => k = b ∨ g = some k) w w' := by
  obtain ⟨i0, hi, hz0, hz1, hz2⟩ := info_parts infoU8
  have hne : g ≠ some b := by
    obtain ⟨p, v, _, _, _, rfl, hne⟩ := h
    exact hne
  have hbl := h.lt.1
  go_enter Try.func49, Try.ntmps49
  go_wp2_with (go_at_call 60; refine (bld_check b g l _ h bld240).mono ?_)
  rintro e w1 ⟨rfl, ⟨v, hbk, hown, rfl⟩, hk1, -⟩
  have hz := hk1.size
  have c0 : w1.cell? ⟨b, 0, none⟩ = some (.pointer (some ⟨b, 0, none⟩)) := by rw [Lib.cell_of_heap hbk]; rfl
  have c1 : w1.cell? ⟨b, 1, none⟩ = some v := by rw [Lib.cell_of_heap hbk]; rfl
  go_wp2_with (at_builtin; (refine wpList_append_own_at _ rfl _ _ 69 rfl 0 5 i0 (.int .u8 0) 1 1 Try.underlying69 hi hz0 hz1 hz2 rfl (by decide) _ _ _ rfl (hown.alloc _) ⟨w1.heap.size, 0, none⟩ 1 1 [.int .u8 c.toNat] rfl rfl ?c1 ?c2 ?c3 ?c4 ?c5 ?_))
  case c1 =>
    intro j u hj
    match j, hj with
    | 0, hj => simp at hj; subst hj; simp [Addr.add]
  case c2 => intro u hu; simp at hu; subst hu; rfl
  case c3 => unfold maxLen; omega
  case c4 => omega
  case c5 => simp
  intro v' w2 hown' hgrow _ hat
  have hb2 : w2.heap[b]? = some (.cells #[.pointer (some ⟨b, 0, none⟩), v] 84 (0, 0)) := by
    rw [hgrow.block b (by simp; omega) (fun e => hne e.symm), Lib.alloc_old w1 _ b (by omega)]
    exact hbk
  have d0 : w2.cell? ⟨b, 0, none⟩ = some (.pointer (some ⟨b, 0, none⟩)) := by rw [Lib.cell_of_heap hb2]; rfl
  have d1 : w2.cell? ⟨b, 1, none⟩ = some v := by rw [Lib.cell_of_heap hb2]; rfl
  have f1 : w2.frozen? ⟨b, 1, none⟩ = false := Lib.frozen_of_heap hb2 1
  obtain ⟨g, cap, rfl⟩ : ∃ g cap, v' = .slice (some ⟨g, 0, none⟩) (l.length + 1) cap := by
    rcases hown'.2 with ⟨_, h0⟩ | ⟨g, cap, cur, hv, _⟩
    · omega
    · exact ⟨g, cap, hv⟩
  have hgb : g ≠ b := by
    rintro rfl
    rcases hat with e | e
    · exact hne (e.symm.trans (by simp [Value.ownBlock]))
    · simp [Value.ownBlock] at e; omega
  go_wp2
  go_ret
  refine ⟨rfl, some g, ⟨_, .slice (some ⟨g, 0, none⟩) (l.length + 1) cap, .inr rfl, ?_, ?_, rfl, by simpa using hgb⟩, ?_, ?_⟩
  · simp [World.setCell, Array.getElem?_modify, hb2]
  · have hx := ownsRow_set hown' (a := ⟨b, 1, none⟩) (by simp [Value.ownBlock]; exact hgb) (.slice (some ⟨g, 0, none⟩) (l.length + 1) cap)
    rw [byteCells_snoc] at hx
    simpa using hx
  · rcases hat with e | e
    · exact .inl e
    · exact .inr ⟨_, e, by first | omega | (simp; omega)⟩
  · refine Keeps.setCell (S := fun k => k = b ∨ v.ownBlock = some k) ?_ (p := ⟨b, 1, none⟩) (fun _ => .inl rfl) _
    exact ((hk1.mono fun k _ hh => .inl hh).alloc _).grown hgrow fun k e _ => .inr e
theorem bld_int (B b : Nat) (R : List Nat) (l : List UInt8) (c : Int) (u : UInt8) (w : World) (h : BldAt B b R l w) (hl : l.length ≤ 100000000) (hu : (u.toNat : Int) = c) :
    Calls Try.prog 49 #[.pointer (some ⟨b, 0, none⟩), .int .u8 c] w fun e w' => e = .returned .nilIface ∧ BldAt B b R (l ++ [u]) w' ∧ Same B R w w' := by
  subst hu
  have h' := h
  obtain ⟨hB, hR, hBb, g, hg, hk⟩ := h'
  refine (bld_byte0 b g l u w hg hl).mono ?_
  rintro e w' ⟨rfl, g', h1, h2, h3⟩
  exact ⟨rfl, bldAt_of h hk h1 h2 h3⟩
theorem BldAt.isF {B b : Nat} {R : List Nat} {l : List UInt8} {w : World} (h : BldAt B b R l w) : Lib.IsBuilderF 84 5 B b (Lib.byteCells l) w := by
  obtain ⟨hB, hR, hBb, g, ⟨p, v, hp, hb, hown, rfl, hne⟩, hk⟩ := h
  have hF : Lib.BuilderAtF 84 5 B b p (Lib.byteCells l) w := by
    refine ⟨hBb, v, hb, ⟨by simp, ?_⟩, hne⟩
    rcases hown.2 with ⟨h1, h2⟩ | ⟨g, cap, cur, rfl, _, hgg, hnc, hcm, hcs, ht⟩
    · exact .inl ⟨h1, by simpa [Lib.byteCells] using h2⟩
    · exact .inr ⟨g, cap, cur, (0, 0), by simp [Lib.byteCells], (hk g rfl).1, hgg, by simp, by simpa [Lib.byteCells] using hnc, hcm, hcs, by simpa [Lib.byteCells] using ht⟩
  rcases hp with rfl | rfl
  · exact .inl hF
  · exact .inr hF
/-- String: the bytes; the builder is not written any more. -/
theorem bld_done (B b : Nat) (R : List Nat) (l : List UInt8) (w : World) (h : BldAt B b R l w) :
    Calls Try.prog 51 #[.pointer (some ⟨b, 0, none⟩)] w fun e w' => e = .returned (.string ⟨l.toArray⟩) ∧ Lib.IsBuilderF 84 5 B b (Lib.byteCells l) w' ∧ Below B w w' :=
  (Any.Builder_String_any_k Try.lays169 Try.Builder_Extra_169 B b l w h.isF h.1).mono fun e w' hh => ⟨hh.1, hh.2.1, hh.2.2.1⟩
end Go.Proofs.Ytdaokkajbooiaaa
end
section
/- Contracts of Go's library at this seat's translation: strings.IndexByte at the digits, strings.Cut at a separator of one byte. -/
namespace Go.Proofs.Ytdaokkajbooiaaa
open Go.RowKit
set_option linter.unusedVariables false
set_option linter.unusedSimpArgs false
theorem idx_any (c : UInt8) (w : World) : Calls Try.prog 56 #[.string (⟨#[48, 49, 50, 51, 52, 53, 54, 55, 56, 57, 97, 98, 99, 100, 101, 102]⟩ : ByteArray), .int .u8 c.toNat] w fun e w' => e = .returned (.int .i64 (hexN c.toNat)) ∧ w' = w := by
  have h := Try.strings_IndexByte (⟨#[48, 49, 50, 51, 52, 53, 54, 55, 56, 57, 97, 98, 99, 100, 101, 102]⟩ : ByteArray) c.toNat w
  rw [show ((c.toNat : Int)).toNat.toUInt8 = c by simp] at h
  rw [show ((⟨#[48, 49, 50, 51, 52, 53, 54, 55, 56, 57, 97, 98, 99, 100, 101, 102]⟩ : ByteArray)).data.toList = ([48, 49, 50, 51, 52, 53, 54, 55, 56, 57, 97, 98, 99, 100, 101, 102] : List UInt8) from rfl, hexN_index] at h
  exact h
/-- A text parted at the first c. -/
def cutAt (c : UInt8) : List UInt8 → Option (List UInt8 × List UInt8)
  | [] => none
  | x :: r => if x = c then some ([], r) else (cutAt c r).map fun p => (x :: p.1, p.2)
theorem cutAt_none (c : UInt8) : ∀ l, cutAt c l = none → Lib.indexByte l c = -1
  | [], _ => rfl
  | x :: r, h => by
    unfold cutAt at h
    split at h
    · cases h
    · rename_i hx
      have := cutAt_none c r (by cases hh : cutAt c r <;> simp_all)
      simp [Lib.indexByte, hx, this]
theorem cutAt_some (c : UInt8) : ∀ l a b, cutAt c l = some (a, b) → Lib.indexByte l c = a.length ∧ l = a ++ c :: b
  | [], _, _, h => by cases h
  | x :: r, a, b, h => by
    unfold cutAt at h
    split at h
    · rename_i hx
      simp only [Option.some.injEq, Prod.mk.injEq] at h
      obtain ⟨rfl, rfl⟩ := h
      simp [Lib.indexByte, hx]
    · rename_i hx
      cases hh : cutAt c r with
      | none => simp [hh] at h
      | some p =>
        obtain ⟨a', b'⟩ := p
        simp only [hh, Option.map_some, Option.some.injEq, Prod.mk.injEq] at h
        obtain ⟨rfl, rfl⟩ := h
        obtain ⟨h1, h2⟩ := cutAt_some c r a' b' hh
        refine ⟨?_, by rw [h2]; rfl⟩
        simp only [Lib.indexByte]
        rw [if_neg (by simpa using hx), h1, if_neg (by simp)]
        simp
theorem cut_none0 (s : ByteArray) (c : UInt8) (w : World) (h : cutAt c s.data.toList = none) :
    Calls Try.prog 55 #[.string s, .string ⟨#[c]⟩] w fun e w' => e = .returned (.tuple #[.string s, .string ⟨#[]⟩, .bool false]) ∧ w' = w := by
  have hi := cutAt_none c _ h
  have HI := Lib.hid hi
  clear hi h
  go_enter Try.func55, Try.ntmps55
  go_wp2_with fail
  refine (Try.stringslite_Index_one s c _).mono ?_
  rintro e w' ⟨rfl, rfl⟩
  rw [HI.out]
  go_wp2
  go_ret3
  exact ⟨rfl, rfl⟩
theorem cut_none (s : ByteArray) (c : UInt8) (w : World) (h : cutAt c s.data.toList = none) :
    Calls Try.prog 41 #[.string s, .string ⟨#[c]⟩] w fun e w' => e = .returned (.tuple #[.string s, .string ⟨#[]⟩, .bool false]) ∧ w' = w := by
  go_enter Try.func41, Try.ntmps41
  go_wp2_with fail
  refine (cut_none0 s c _ h).mono ?_
  rintro e w' ⟨rfl, rfl⟩
  go_wp2
  go_ret3
  exact ⟨rfl, rfl⟩
theorem cut_some0 (s : ByteArray) (c : UInt8) (a b : List UInt8) (w : World) (hs : s.size ≤ 1000000) (h : cutAt c s.data.toList = some (a, b)) :
    Calls Try.prog 55 #[.string s, .string ⟨#[c]⟩] w fun e w' => e = .returned (.tuple #[.string ⟨a.toArray⟩, .string ⟨b.toArray⟩, .bool true]) ∧ ∃ n, w' = w.drewN n := by
  obtain ⟨hi, hl⟩ := cutAt_some c _ a b h
  have hlen : s.size = a.length + (b.length + 1) := by rw [bs_len, hl]; simp
  have e1 : s.extract 0 a.length = ⟨a.toArray⟩ := bs_mk (by simp [ByteArray.data_extract, List.extract_eq_take_drop, hl])
  have e2 : s.extract (a.length + 1) s.size = ⟨b.toArray⟩ := bs_mk (by
    simp only [ByteArray.data_extract, Array.toList_extract, List.extract_eq_take_drop, hl]
    rw [show a ++ c :: b = (a ++ [c]) ++ b by simp, List.drop_left' (by simp)]
    exact List.take_of_length_le (by omega))
  have HI := Lib.hid hi
  have g1 := fun W => run_slice_string_h (P := Try.prog) (w := W) 9 s Try.underlying9 .i64 (a.length : Int) (by omega) (by omega)
  have g2 := fun W => run_slice_string_l (P := Try.prog) (w := W) 9 s Try.underlying9 .i64 ((a.length : Int) + 1) (by omega) (by omega)
  simp only [Int.toNat_natCast, show ((a.length : Int) + 1).toNat = a.length + 1 by omega, e1, e2] at g1 g2
  have ha : (a.length : Int) ≤ 1000000 := by omega
  have q1 : IntKind.i64.wrap ((a.length : Int) + 1) = (a.length : Int) + 1 := IntWalk.i64_in _ (by omega)
  clear hi hl h e1 e2 hlen
  go_enter Try.func55, Try.ntmps55
  go_wp2_with fail
  refine (Try.stringslite_Index_one s c _).mono ?_
  rintro e w' ⟨rfl, rfl⟩
  rw [HI.out]
  go_wp2
  go_quiet (fail)
  go_wp2
  go_ret3
  exact ⟨rfl, _, rfl⟩
theorem cut_some (s : ByteArray) (c : UInt8) (a b : List UInt8) (w : World) (hs : s.size ≤ 1000000) (h : cutAt c s.data.toList = some (a, b)) :
    Calls Try.prog 41 #[.string s, .string ⟨#[c]⟩] w fun e w' => e = .returned (.tuple #[.string ⟨a.toArray⟩, .string ⟨b.toArray⟩, .bool true]) ∧ ∃ n, w' = w.drewN n := by
  go_enter Try.func41, Try.ntmps41
  go_wp2_with fail
  refine (cut_some0 s c a b _ hs h).mono ?_
  rintro e w' ⟨rfl, n, rfl⟩
  go_wp2
  go_ret3
  exact ⟨rfl, n, rfl⟩
theorem cut_someB (s : ByteArray) (c : UInt8) (a b : ByteArray) (w : World) (hs : s.size ≤ 1000000) (h : cutAt c s.data.toList = some (a.data.toList, b.data.toList)) :
    Calls Try.prog 41 #[.string s, .string ⟨#[c]⟩] w fun e w' => e = .returned (.tuple #[.string a, .string b, .bool true]) ∧ ∃ n, w' = w.drewN n := by
  have hh := cut_some s c _ _ w hs h
  rw [← bs_mk (a := a) rfl, ← bs_mk (a := b) rfl] at hh
  exact hh
end Go.Proofs.Ytdaokkajbooiaaa
end
