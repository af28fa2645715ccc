/- Listing: keys and awake. -/
import Derived.Test.YtahkcfhiecfgeaaProg
import Derived.Test.YtahkcfhiecfgeaaFo20
import Derived.Deep.QuietTactic
import Derived.BigQuiet
namespace Go.Proofs.Ytahkcfhiecfgeaa
open Go.RowKit
set_option linter.unusedVariables false
set_option linter.unusedSimpArgs false
theorem runP_len (after version : Bs) (most : Nat) : ∀ (l : List Itm) (beh : Bool) (acc : List Itm), acc.length ≤ most → (runP after version most beh acc l).1.length ≤ most
  | [], beh, acc, h => by unfold runP; exact h
  | x :: r, beh, acc, h => by
    unfold runP
    split
    · split
      · exact h
      · exact runP_len after version most r _ _ (by simp; omega)
    · exact runP_len after version most r _ _ h
theorem pageV_len (vers : Bool) (l : List Ent) (p d after version : Bs) (most : Int) : (pageV vers l p d after version most).1.items.length ≤ 1000 := by
  unfold pageV
  split
  · simp [pg0]
  split
  · simp [pg0]
  split
  · simp [pg0]
  · have h := runP_len after version most.toNat (listP p d vers none l) false [] (by simp)
    simp only
    unfold mkPg
    split <;> (simp only; omega)
theorem PgSrc.alloc {W : World} {pv : Value} {g : Pg} (h : PgSrc W pv g) (o : Obj) : PgSrc (W.alloc o) pv g := h.block (ba W o)
set_option maxRecDepth 10000 in
set_option maxHeartbeats 1000000 in
theorem keysK_any (p d after : ByteArray) (most : Int) (want : Value) (g : Pg) (w : World) (hw : PgSrc w want g) (hgl : g.items.length ≤ 1000000) (hMax : ∃ m, w.cell? ⟨0, 0, none⟩ = some (.int .i64 m)) (hps : p.size ≤ 1000000) (hds : d.size ≤ 1000000) (has : after.size ≤ 1000000) :
    Calls Try.prog 20 #[.string p, .string d, .string after, .int .i64 most, want] w fun e w' => e = .returned (.bool (decide (pageV false fourE p.data.toList d.data.toList after.data.toList [] most = (g, 0)))) ∧ Below w.heap.size w w' := by
  have hw0 := hw
  obtain ⟨sl, rfl, hsl⟩ := hw
  obtain ⟨As, cs, rfl⟩ := hsl.form
  simp only [List.length_map] at hw0 ⊢
  clear hsl
  have HW := Lib.hid hw0
  clear hw0
  obtain ⟨m0, hm0⟩ := hMax
  have hlen := pageV_len false fourE p.data.toList d.data.toList after.data.toList [] most
  have hKC := fun W v (hE : EntsAt W v fourE) (hm : W.cell? ⟨0, 0, none⟩ = some (.int .i64 m0)) => keys_any p d after most fourE v W hE (by decide) (by decide) ⟨m0, hm⟩ hps hds has
  obtain ⟨R, hR⟩ : ∃ R, pageV false fourE p.data.toList d.data.toList after.data.toList [] most = R := ⟨_, rfl⟩
  rw [hR] at hlen
  simp only [hR] at hKC
  rw [hR]
  clear hR
  obtain ⟨⟨items, more, next, vr⟩, en⟩ := R
  simp only at hlen hKC
  have HM := Lib.hid (cell_lt hm0)
  have HM0 := Lib.hid hm0
  clear hm0
  obtain ⟨gi, gm, gn, gv⟩ := g
  simp only at hgl ⊢
  have hF := fun W => four_any W
  have bW := ba w (.cells #[.slice As gi.length cs, .bool gm, .string (BA gn), .string (BA gv)] 28)
  go_enter Try.func20, Try.ntmps20
  by_cases hen : en = 0
  · subst hen
    go_wp2_with first | (go_at_call 22; refine (hF _).mono ?_; clear hF; rintro e w1 ⟨v1, rfl, hE1, hb1⟩; obtain ⟨A0, c0, rfl⟩ := hE1.form) | (go_at_call 11; refine (hKC _ _ hE1 (((bW.trans (hb1.mono bW.size)).cell (p := ⟨0, 0, none⟩) HM.out).trans HM0.out)).mono ?_; clear hKC; rintro e w2 ⟨pv, rfl, hp2, hb2⟩; obtain ⟨sl2, rfl, ho2⟩ := hp2; obtain ⟨A2, c2, rfl⟩ := own_form ho2; have bX := bW.trans ((bt hb1 hb2).mono bW.size); have rB : w2.heap[w.heap.size]? = some (.cells #[.slice As gi.length cs, .bool gm, .string (BA gn), .string (BA gv)] 28 (0, 0)) := ((bt hb1 hb2).block _ (by simp)).trans (heap_alloc_new w _); have q0 : ∀ o, (w2.alloc o).cell? ⟨w.heap.size, 0, none⟩ = some (.slice As gi.length cs) := (fun o => by rw [cell_of_row _ _ 0 _ _ (0, 0) ((heap_alloc_old w2 o _ (Array.getElem?_eq_some_iff.1 rB).1).trans rB)]; rfl); have q1 : ∀ o, (w2.alloc o).cell? ⟨w.heap.size, 1, none⟩ = some (.bool gm) := (fun o => by rw [cell_of_row _ _ 1 _ _ (0, 0) ((heap_alloc_old w2 o _ (Array.getElem?_eq_some_iff.1 rB).1).trans rB)]; rfl); have q2 : ∀ o, (w2.alloc o).cell? ⟨w.heap.size, 2, none⟩ = some (.string (BA gn)) := (fun o => by rw [cell_of_row _ _ 2 _ _ (0, 0) ((heap_alloc_old w2 o _ (Array.getElem?_eq_some_iff.1 rB).1).trans rB)]; rfl); have q3 : ∀ o, (w2.alloc o).cell? ⟨w.heap.size, 3, none⟩ = some (.string (BA gv)) := (fun o => by rw [cell_of_row _ _ 3 _ _ (0, 0) ((heap_alloc_old w2 o _ (Array.getElem?_eq_some_iff.1 rB).1).trans rB)]; rfl)) | (go_at_call 15; refine (samePage_any _ _ ⟨items, more, next, vr⟩ ⟨gi, gm, gn, gv⟩ _ ((PageAt.src ⟨_, rfl, ho2⟩).alloc _) ((HW.out.block bX).alloc _) (by simp only; omega) hgl).mono ?_; rintro e w3 ⟨rfl, hb3⟩)
    go_ret
    exact ⟨by simp, bX.trans ((bt (ba w2 _) hb3).mono bX.size)⟩
  · have hq : (en == 0) = false := by simp [hen]
    go_wp2_with first | (go_at_call 22; refine (hF _).mono ?_; clear hF; rintro e w1 ⟨v1, rfl, hE1, hb1⟩; obtain ⟨A0, c0, rfl⟩ := hE1.form) | (go_at_call 11; refine (hKC _ _ hE1 (((bW.trans (hb1.mono bW.size)).cell (p := ⟨0, 0, none⟩) HM.out).trans HM0.out)).mono ?_; clear hKC; rintro e w2 ⟨pv, rfl, hp2, hb2⟩; obtain ⟨sl2, rfl, ho2⟩ := hp2; obtain ⟨A2, c2, rfl⟩ := own_form ho2)
    go_ret
    exact ⟨by simp [hen], (bW.trans ((bt hb1 (bt hb2 (ba w2 _))).mono bW.size))⟩
def itm (nm id : Bs) (latest : Bool) : Itm := ⟨nm, false, ver id, latest⟩
def pgA : Pg := ⟨[itm ([97] : List UInt8) ([118, 49] : List UInt8) false], true, ([97] : List UInt8), []⟩
def pgB : Pg := ⟨[comItm ([98, 47] : List UInt8)], false, [], []⟩
theorem known_A : pageV false fourE [] ([47] : List UInt8) [] [] 1 = (pgA, 0) := by decide +kernel
theorem known_B : pageV false fourE [] ([47] : List UInt8) ([97] : List UInt8) [] 9 = (pgB, 0) := by decide +kernel
/-- 'keys' at a page that is just what is told. -/
theorem keysK_true (p d after : ByteArray) (most : Int) (want : Value) (g : Pg) (w : World) (hw : PgSrc w want g) (hgl : g.items.length ≤ 1000000) {m0 : Int} (hm : w.cell? ⟨0, 0, none⟩ = some (.int .i64 m0)) (hps : p.size ≤ 1000000) (hds : d.size ≤ 1000000) (has : after.size ≤ 1000000) (hK : pageV false fourE p.data.toList d.data.toList after.data.toList [] most = (g, 0)) :
    Calls Try.prog 20 #[.string p, .string d, .string after, .int .i64 most, want] w fun e w' => e = .returned (.bool true) ∧ Below w.heap.size w w' := by
  have h := keysK_any p d after most want g w hw hgl ⟨m0, hm⟩ hps hds has
  rw [hK] at h
  simpa using h
set_option maxRecDepth 10000 in
set_option maxHeartbeats 1000000 in
theorem awake_any (w : World) (hMax : ∃ m, w.cell? ⟨0, 0, none⟩ = some (.int .i64 m)) : Calls Try.prog 19 #[] w fun e w' => e = .returned (.bool true) ∧ Below w.heap.size w w' := by
  obtain ⟨m0, hm0⟩ := hMax
  have HM := Lib.hid (cell_lt hm0)
  have HM0 := Lib.hid hm0
  clear hm0
  have hV := fun W => v_any ([118, 49] : List UInt8) W
  have hK1 := fun W want (hw : PgSrc W want pgA) (hm : W.cell? ⟨0, 0, none⟩ = some (.int .i64 m0)) => keysK_true ⟨#[]⟩ (BA ([47] : List UInt8)) ⟨#[]⟩ 1 want pgA W hw (by decide) hm (by decide) (by decide) (by decide) known_A
  have hK2 := fun W want (hw : PgSrc W want pgB) (hm : W.cell? ⟨0, 0, none⟩ = some (.int .i64 m0)) => keysK_true ⟨#[]⟩ (BA ([47] : List UInt8)) (BA ([97] : List UInt8)) 9 want pgB W hw (by decide) hm (by decide) (by decide) (by decide) known_B
  go_enter Try.func19, Try.ntmps19
  go_wp2_with first | (go_at_call 21; refine (hV _).mono ?_; clear hV; rintro e w1 ⟨rfl, b1⟩) | (go_at_call 20; refine (hK1 _ _ ⟨_, rfl, srcR_row (rows := [itmC (itm ([97] : List UInt8) ([118, 49] : List UInt8) false)]) (heap_alloc_new w1 _) (by simp [itmC])⟩ (((b1.trans ((ba w1 _).mono b1.size)).cell (p := ⟨0, 0, none⟩) HM.out).trans HM0.out)).mono ?_; clear hK1; rintro e w2 ⟨rfl, b2⟩) | (go_at_call 20; refine (hK2 _ _ ⟨_, rfl, srcR_row (rows := [itmC (comItm ([98, 47] : List UInt8))]) (heap_alloc_new w2 _) (by simp [itmC])⟩ (((b1.trans ((bt (bt (ba w1 _) b2) (ba w2 _)).mono b1.size)).cell (p := ⟨0, 0, none⟩) HM.out).trans HM0.out)).mono ?_; clear hK2; rintro e w3 ⟨rfl, b3⟩)
  go_ret
  exact ⟨rfl, bt b1 (bt (ba w1 _) (bt b2 (bt (ba w2 _) b3)))⟩
end Go.Proofs.Ytahkcfhiecfgeaa
