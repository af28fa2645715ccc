/- Texts of this proof, put together: Base. -/
import Derived.WalkKit
import Derived.WalkLawsBesides
import Derived.WalkSpells
import Derived.BigQuiet
import Derived.Deep.QuietTactic
import Derived.Deep.DeepCutAuto
import Derived.Deep.DeepFit
import Derived.Deep.CutBlock
import Derived.Outline
import Derived.OwnWalk
import Derived.BigGuardPart
import Derived.Lib.ConvBytes
import Derived.Lib.Hide
import Derived.Lib.OthersKept
import Derived.Lib.AppendStr
import Derived.Deep.AppendLies
import Derived.Shelf.Strings.BuilderK
import Derived.Maps.AppendAt
import Derived.Lib.Bytealg
import Derived.StillTailTactics
import Derived.Deep.RegionLaw
section
/- Common lemmas of this seat's proofs: no program in sight. -/
namespace Go.Proofs.YtehibiplodjofaaDoor
open Go.RowKit
set_option linter.unusedVariables false
set_option linter.unusedSimpArgs false
theorem ret_bool {a b : Bool} (h : a = b) : Ending.returned (.bool a) = .returned (.bool b) := by rw [h]
theorem ret_int {k : IntKind} {a b : Int} (h : a = b) : Ending.returned (.int k a) = .returned (.int k b) := by rw [h]
theorem ret_str {a b : ByteArray} (h : a = b) : Ending.returned (.string a) = .returned (.string b) := by rw [h]
/-- '[]byte(s)': a new row that holds the string's bytes. -/
theorem conv_bytes {P : Program} (w : World) (src dst e : TypeId) (s : ByteArray) {u : TypeDesc}
    (hs : P.underlying src = some u) (hd : P.underlying dst = some (.slice e)) (he : P.underlying e = some (.int .u8)) :
    ∃ w1 c, (convert src dst (.string s)).run P w = .ok (.slice (some ⟨w.heap.size, 0, none⟩) s.size c) w1 ∧ s.size ≤ c ∧ Below w.heap.size w w1 ∧ w.heap.size < w1.heap.size ∧
      ∀ k, k < s.size → w1.cell? ⟨w.heap.size, k, none⟩ = some (.int .u8 (s.data.toList[k]?.getD 0).toNat) := by
  refine ⟨_, _, Lib.run_convert_string_bytes w src dst e s hs hd he, grownCap_ge _ _ _ _, ⟨rfl, rfl, rfl, ?_, fun k hk => Lib.bytesWorld_at_old w e s k hk⟩, ?_, fun k hk => ?_⟩
  · rw [Lib.bytesWorld_size]; omega
  · rw [Lib.bytesWorld_size]; omega
  · rw [Lib.bytesWorld_cell w e s k hk]; simp [List.getD]
theorem next_byte (s : ByteArray) (k : Nat) (h : k < s.size) : ∃ c : UInt8, s.data.toList[k]?.getD 0 = c ∧ s.data.toList.drop k = c :: s.data.toList.drop (k + 1) := by
  have h' : k < s.data.toList.length := by simpa using h
  exact ⟨s.data.toList[k], by rw [List.getElem?_eq_getElem h']; rfl, List.drop_eq_getElem_cons h'⟩
theorem bs_app (a b : ByteArray) : (a ++ b).data.toList = a.data.toList ++ b.data.toList := by simp [ByteArray.data_append]
theorem bs_len (a : ByteArray) : a.size = a.data.toList.length := by simp
theorem bs_ext {a b : ByteArray} (h : a.data.toList = b.data.toList) : a = b := by
  cases a; cases b; congr 1; exact Array.toList_inj.1 h
theorem bs_mk {a : ByteArray} {l : List UInt8} (h : a.data.toList = l) : a = ⟨l.toArray⟩ := bs_ext (by simpa using h)
theorem next_at (s : ByteArray) (k : Nat) (h : k < s.size) : ∃ c : UInt8, s[k]'h = c ∧ s.data.toList.drop k = c :: s.data.toList.drop (k + 1) := by
  have h' : k < s.data.toList.length := by simpa using h
  exact ⟨s.data.toList[k], rfl, List.drop_eq_getElem_cons h'⟩
theorem below_drewN {B : Nat} {a w : World} (h : Below B a w) (n : Nat) : Below B a (w.drewN n) := ⟨h.os, h.tape, h.output, h.size, h.block⟩
theorem bs_toList (s : ByteArray) : s.toList = s.data.toList := ByteArray.toList_eq s
theorem bs_beq (s : ByteArray) : (s.data.toList == s.toList) = true := by rw [bs_toList]; simp
theorem bs_of (l : List UInt8) : ∃ s : ByteArray, l = s.data.toList := ⟨⟨l.toArray⟩, by simp⟩
def hexD (n : Nat) : UInt8 := if n < 10 then (48 + n).toUInt8 else (87 + n).toUInt8
theorem hexIx (n : Nat) (h : n < (⟨#[48, 49, 50, 51, 52, 53, 54, 55, 56, 57, 97, 98, 99, 100, 101, 102]⟩ : ByteArray).size) :
    ((hexD n).toNat : Int) = ((⟨#[48, 49, 50, 51, 52, 53, 54, 55, 56, 57, 97, 98, 99, 100, 101, 102]⟩ : ByteArray)[n]'h).toNat := by
  have hh : ∀ i : Fin 16, ((hexD i.1).toNat : Int) = ((⟨#[48, 49, 50, 51, 52, 53, 54, 55, 56, 57, 97, 98, 99, 100, 101, 102]⟩ : ByteArray)[i.1]'(i.2)).toNat := by decide
  exact hh ⟨n, h⟩
/-! ### frames: every block that lay there stands, but for those of S -/
structure Keeps (S : Nat → Prop) (w w' : World) : Prop where
  os : w'.os = w.os
  tape : w'.tape = w.tape
  output : w'.output = w.output
  size : w.heap.size ≤ w'.heap.size
  block : ∀ k, k < w.heap.size → ¬ S k → w'.heap[k]? = w.heap[k]?
section
variable {S S' : Nat → Prop} {a b c w w' : World}
theorem Keeps.refl (S : Nat → Prop) (w : World) : Keeps S w w := ⟨rfl, rfl, rfl, Nat.le_refl _, fun _ _ _ => rfl⟩
theorem Keeps.mono (h : Keeps S w w') (hs : ∀ k, k < w.heap.size → S k → S' k) : Keeps S' w w' := ⟨h.os, h.tape, h.output, h.size, fun k hk hn => h.block k hk fun hh => hn (hs k hk hh)⟩
theorem Keeps.trans (h : Keeps S a b) (k : Keeps S' b c) (hs : ∀ i, i < a.heap.size → S' i → S i) : Keeps S a c :=
  ⟨k.os.trans h.os, k.tape.trans h.tape, k.output.trans h.output, Nat.le_trans h.size k.size, fun i hi hn => (k.block i (Nat.lt_of_lt_of_le hi h.size) fun hh => hn (hs i hi hh)).trans (h.block i hi hn)⟩
theorem Keeps.alloc (h : Keeps S a w) (o : Obj) : Keeps S a (w.alloc o) :=
  ⟨h.os, h.tape, h.output, Nat.le_trans h.size (by simp), fun k hk hn => (Below.heap_alloc w o k (Nat.lt_of_lt_of_le hk h.size)).trans (h.block k hk hn)⟩
theorem Keeps.drew (h : Keeps S a w) : Keeps S a w.drew := ⟨h.os, h.tape, h.output, h.size, h.block⟩
theorem Keeps.drewN (h : Keeps S a w) (n : Nat) : Keeps S a (w.drewN n) := ⟨h.os, h.tape, h.output, h.size, h.block⟩
theorem Keeps.setCell (h : Keeps S a w) {p : Addr} (hp : p.block < a.heap.size → S p.block) (u : Value) : Keeps S a (w.setCell p u) :=
  ⟨h.os, h.tape, h.output, by simpa [World.setCell] using h.size, fun k hk hn => (Below.heap_setCell w p u k (fun e => hn (e ▸ hp (e ▸ hk)))).trans (h.block k hk hn)⟩
theorem Keeps.grown (h : Keeps S a w) {row : Option Nat} (hg : w.grownBy w' row) (hr : ∀ k, row = some k → k < a.heap.size → S k) : Keeps S a w' :=
  ⟨hg.os.trans h.os, hg.tape.trans h.tape, hg.output.trans h.output, Nat.le_trans h.size hg.size, fun k hk hn => (hg.block k (Nat.lt_of_lt_of_le hk h.size) (fun e => hn (hr k e.symm hk))).trans (h.block k hk hn)⟩
theorem Keeps.ofBelow (S : Nat → Prop) (h : Below w.heap.size w w') : Keeps S w w' := ⟨h.os, h.tape, h.output, h.size, fun k hk _ => h.block k hk⟩
theorem Keeps.thenBelow (h : Keeps S a w) (hb : Below w.heap.size w w') : Keeps S a w' := h.trans (Keeps.ofBelow S hb) fun _ _ hh => hh
theorem Keeps.below {B : Nat} (h : Keeps S w w') (hB : B ≤ w.heap.size) (hn : ∀ k, k < B → ¬ S k) : Below B w w' := ⟨h.os, h.tape, h.output, h.size, fun k hk => h.block k (by omega) (hn k hk)⟩
theorem cell_lt {p : Addr} {u : Value} (h : w.cell? p = some u) : p.block < w.heap.size := by
  rcases Nat.lt_or_ge p.block w.heap.size with hh | hh
  · exact hh
  · simp [World.cell?, Array.getElem?_eq_none hh] at h
theorem Keeps.cell (h : Keeps S w w') {p : Addr} {u : Value} (hn : ¬ S p.block) (hc : w.cell? p = some u) : w'.cell? p = some u :=
  (World.cell?_of_block (w := w) (h.block p.block (cell_lt hc) hn)).trans hc
theorem heap_cell {p : Addr} (h : w'.heap[p.block]? = w.heap[p.block]?) {u : Value} (hc : w.cell? p = some u) : w'.cell? p = some u := (World.cell?_of_block (w := w) h).trans hc
end
theorem ownsRow_set {w : World} {base : Nat} {e : TypeId} {size : Nat} {v : Value} {n : Nat} {xs : List Value} (h : w.ownsRow base e size v n xs) {a : Addr} (ha : v.ownBlock ≠ some a.block) (u : Value) : (w.setCell a u).ownsRow base e size v n xs := by
  obtain ⟨h1, h2⟩ := h
  refine ⟨h1, ?_⟩
  rcases h2 with h2 | ⟨g, cap, cur, rfl, hg, hh, r⟩
  · exact Or.inl h2
  · exact Or.inr ⟨g, cap, cur, rfl, hg, by rw [Below.heap_setCell _ _ _ _ (fun e => ha (by simp [Value.ownBlock, e]))]; exact hh, r⟩
/-- What a slice that begins at A reads: the cells xs. -/
def Rd (w : World) (A : Option Addr) (xs : List Value) : Prop := xs ≠ [] → ∃ b off, A = some ⟨b, off, none⟩ ∧ ∀ j u, xs[j]? = some u → w.cell? ⟨b, off + j, none⟩ = some u
theorem Rd.keep {S : Nat → Prop} {w w' : World} {A : Option Addr} {xs : List Value} (h : Rd w A xs) (hk : Keeps S w w') (hn : ∀ a, A = some a → ¬ S a.block) : Rd w' A xs := by
  intro hx
  obtain ⟨b, off, rfl, hc⟩ := h hx
  exact ⟨b, off, rfl, fun j u hu => hk.cell (p := ⟨b, off + j, none⟩) (hn ⟨b, off, none⟩ rfl) (hc j u hu)⟩
theorem Rd.below {w w' : World} {A : Option Addr} {xs : List Value} (h : Rd w A xs) (hb : Below w.heap.size w w') : Rd w' A xs := h.keep (Keeps.ofBelow (fun _ => False) hb) (by simp)
theorem Rd.of {w : World} {b off : Nat} {xs : List Value} (h : ∀ j u, xs[j]? = some u → w.cell? ⟨b, off + j, none⟩ = some u) : Rd w (some ⟨b, off, none⟩) xs := fun _ => ⟨b, off, rfl, h⟩
theorem Rd.one {w : World} {b off : Nat} {u : Value} (h : w.cell? ⟨b, off, none⟩ = some u) : Rd w (some ⟨b, off, none⟩) [u] :=
  Rd.of fun j v hv => by
    match j, hv with
    | 0, hv => simp at hv; subst hv; exact h
theorem next_elem {α : Type} (l : List α) (k : Nat) (h : k < l.length) : ∃ x, l[k]? = some x ∧ l.drop k = x :: l.drop (k + 1) := ⟨l[k], List.getElem?_eq_getElem h, List.drop_eq_getElem_cons h⟩
theorem below_cell {w w' : World} (hb : Below w.heap.size w w') {p : Addr} {u : Value} (hc : w.cell? p = some u) : w'.cell? p = some u := (Keeps.ofBelow (fun _ => False) hb).cell (by simp) hc
theorem cell_new (w : World) (u : Value) (t : TypeId) : (w.alloc (.cells #[u] t)).cell? ⟨w.heap.size, 0, none⟩ = some u := by simp [World.cell?, World.alloc, -World.alloc_eq]
theorem bstep {B : Nat} {w w1 w2 : World} (hb : Below B w w1) (hq : Below w1.heap.size w1 w2) (hB : B ≤ w.heap.size) : Below B w w2 := hb.trans (hq.mono (Nat.le_trans hB hb.size))
theorem ext_one (s : ByteArray) (k : Nat) (h : k < s.size) : s.extract k (k + 1) = ⟨#[s[k]'h]⟩ := by
  apply bs_ext
  have h' : k < s.data.size := h
  simp only [ByteArray.data_extract, Array.toList_extract, List.extract_eq_take_drop]
  rw [List.drop_eq_getElem_cons (by simpa using h'), show k + 1 - k = 1 by omega]
  rfl
theorem slice_one {P : Program} (t : TypeId) (ht : P.underlying t = some .string) (k k' : IntKind) (s : ByteArray) (n : Nat) (hn : n < s.size) (c : UInt8) (hc : s[n]'hn = c) (W : World) :
    (Instr.slice t (.string s) (some (.int k n)) (some (.int k' (n + 1))) none).run P W = .ok (.string ⟨#[c]⟩) W := by
  rw [run_slice_string (P := P) (w := W) t _ k k' _ _ ht (by omega) (by omega) (by omega)]
  rw [show ((n : Int) + 1).toNat = n + 1 by omega, Int.toNat_natCast, ext_one s n hn, hc]
def hexN (n : Nat) : Int := if 48 ≤ n ∧ n ≤ 57 then (n : Int) - 48 else if 97 ≤ n ∧ n ≤ 102 then (n : Int) - 87 else -1
theorem hexN_lo (n : Nat) : -1 ≤ hexN n := by unfold hexN; split; omega; split <;> omega
theorem hexN_hi (n : Nat) : hexN n ≤ 15 := by unfold hexN; split; omega; split <;> omega
def hexByte (a b : UInt8) : UInt8 := (16 * hexN a.toNat + hexN b.toNat).toNat.toUInt8
theorem hexByte_val (a b : UInt8) (ha : 0 ≤ hexN a.toNat) (hb : 0 ≤ hexN b.toNat) : 16 * hexN a.toNat + hexN b.toNat = ((hexByte a b).toNat : Int) := by
  have h1 := hexN_hi a.toNat
  have h2 := hexN_hi b.toNat
  unfold hexByte
  obtain ⟨n, hn⟩ := Int.eq_ofNat_of_zero_le (show 0 ≤ 16 * hexN a.toNat + hexN b.toNat by omega)
  rw [hn]
  simp
  omega
theorem or_hex (a b : Int) (ha : 0 ≤ a) (ha2 : a ≤ 15) (hb : 0 ≤ b) (hb2 : b ≤ 15) : bits .or .i64 (a * 16) b = 16 * a + b := by
  have h : ∀ i j : Fin 16, bits .or .i64 ((i.1 : Int) * 16) (j.1 : Int) = 16 * (i.1 : Int) + (j.1 : Int) := by decide +kernel
  have := h ⟨a.toNat, by omega⟩ ⟨b.toNat, by omega⟩
  simp only [Int.toNat_of_nonneg ha, Int.toNat_of_nonneg hb] at this
  exact this
theorem hexByte_or (a b : UInt8) (ha : 0 ≤ hexN a.toNat) (hb : 0 ≤ hexN b.toNat) : bits .or .i64 (hexN a.toNat * 16) (hexN b.toNat) % 256 = ((hexByte a b).toNat : Int) := by
  have h1 := hexN_hi a.toNat
  have h2 := hexN_hi b.toNat
  rw [or_hex _ _ ha h1 hb h2, ← hexByte_val a b ha hb]
  omega
theorem hexN_index (c : UInt8) : Lib.indexByte [48, 49, 50, 51, 52, 53, 54, 55, 56, 57, 97, 98, 99, 100, 101, 102] c = hexN c.toNat := by
  have h : ∀ i : Fin 256, Lib.indexByte [48, 49, 50, 51, 52, 53, 54, 55, 56, 57, 97, 98, 99, 100, 101, 102] (UInt8.ofNat i.1) = hexN (UInt8.ofNat i.1).toNat := by decide +kernel
  have := h ⟨c.toNat, c.toNat_lt⟩
  simpa using this
theorem ext_list (s : ByteArray) (a b : Nat) : s.extract a b = ⟨((s.data.toList.drop a).take (b - a)).toArray⟩ := by
  apply bs_ext
  simp only [ByteArray.data_extract, Array.toList_extract, List.extract_eq_take_drop]
/-- 's[n:]' -/
theorem slice_from {P : Program} (t : TypeId) (ht : P.underlying t = some .string) (k : IntKind) (s : ByteArray) (i : Int) (n : Nat) (hi : i = n) (hn : n ≤ s.size) (W : World) :
    (Instr.slice t (.string s) (some (.int k i)) none none).run P W = .ok (.string ⟨(s.data.toList.drop n).toArray⟩) W := by
  subst hi
  rw [run_slice_string_l (P := P) W t s ht k _ (by omega) (by omega), Int.toNat_natCast, ext_list, List.take_of_length_le (by simp)]
/-- 's[:n]' -/
theorem slice_to {P : Program} (t : TypeId) (ht : P.underlying t = some .string) (k : IntKind) (s : ByteArray) (i : Int) (n : Nat) (hi : i = n) (hn : n ≤ s.size) (W : World) :
    (Instr.slice t (.string s) none (some (.int k i)) none).run P W = .ok (.string ⟨(s.data.toList.take n).toArray⟩) W := by
  subst hi
  rw [run_slice_string_h (P := P) W t s ht k _ (by omega) (by omega), Int.toNat_natCast, ext_list]
  rfl
/-- 'string(b)' of a row of the call's own -/
theorem conv_back {P : Program} {w : World} {base e : TypeId} {v : Value} {l : List UInt8} (h : w.ownsRow base e 1 v l.length (Lib.byteCells l)) (src dst : TypeId) (hs : P.underlying src = some (.slice e)) (he : P.underlying e = some (.int .u8)) (hd : P.underlying dst = some .string) :
    (convert src dst v).run P w = .ok (.string ⟨l.toArray⟩) w := by
  rcases h.2 with ⟨rfl, hl⟩ | ⟨g, cap, cur, rfl, hbg, hg, hnc, hcm, hcs, ht⟩
  · have : l = [] := List.eq_nil_of_length_eq_zero hl
    subst this
    rw [run_convert_bytes_string w src dst e none 0 0 hs he hd]
    simp [Conv.bytesToString, loadCells, loadCellsFrom]
    rfl
  · refine run_convert_bytes_back w src dst e ⟨g, 0, none⟩ cap l hs he hd fun j hj => ?_
    have hh := h.cells (g := g) rfl j (.int .u8 (l[j].toNat : Int)) (by simp [Lib.byteCells, hj])
    exact hh
theorem ownsRow_below {w w' : World} {base : Nat} {e : TypeId} {size : Nat} {v : Value} {n : Nat} {xs : List Value} (h : w.ownsRow base e size v n xs) (hb : Below w.heap.size w w') : w'.ownsRow base e size v n xs := by
  refine ⟨h.1, ?_⟩
  rcases h.2 with h2 | ⟨g, cap, cur, rfl, hg, hh, r⟩
  · exact .inl h2
  · exact .inr ⟨g, cap, cur, rfl, hg, (hb.block g (Array.getElem?_eq_some_iff.1 hh).1).trans hh, r⟩
/-! ### append of a string's bytes, with the place of the new row -/
/-! ### append of one element to a row of the call's own -/
theorem wpList_push {P : Program} {w : World} {ops : Array Oper} {rest : List Oper} {o : Oper} {a : Act} {Q : Exit → Act → World → Prop} (hgd : o.guard = none) (sl x : Operand) (t : TypeId)
    (ho : o.op = .call { callee := .builtin .append, args := #[sl, x], argTypes := #[t, t] })
    (base : Nat) (e : TypeId) (i : TypeInfo) (z : Value) (bytes : Nat) (ht : P.underlying t = some (.slice e)) (hi : P.info? e = some i) (hz : i.zero = some z)
    (hsize : i.size = 1) (hby : i.bytes = bytes) (hzs : z.cells.size = 1)
    (v : Value) (n : Nat) (xs : List Value) (hs : a.eval sl = v) (hown : w.ownsRow base e 1 v n xs)
    (ad : Addr) (u : Value) (hx : a.eval x = .slice (some ad) 1 1) (hc : w.cell? ad = some u) (h1 : u.oneCell' = true)
    (hl : n + 1 ≤ 1000000000) (hb : bytes ≤ 100000) (hbase : base ≤ w.heap.size)
    (h : ∀ v' w', w'.ownsRow base e 1 v' (n + 1) (xs ++ [u]) → w.grownBy w' v.ownBlock → (v'.ownBlock = v.ownBlock ∨ v'.ownBlock = some w.heap.size) → wpList P ops Q rest (a.put o.dst v') w') :
    wpList P ops Q (o :: rest) a w := by
  refine wpList_append_own_at _ hgd sl x t ho base e i z 1 bytes ht hi hz hsize hby hzs (by decide) v n xs hs hown ad 1 1 [u] hx rfl ?_ ?_ ?_ ?_ hbase fun v' w' h1 h2 _ h3 => h v' w' h1 h2 h3
  · intro j u' hu
    match j, hu with
    | 0, hu => simp at hu; subst hu; rw [← hc]; cases ad; simp [Addr.add]
  · intro u' hu
    simp at hu; subst hu; exact h1
  · unfold maxLen; omega
  · calc (n + 1) * bytes ≤ 1000000000 * 100000 := Nat.mul_le_mul hl hb
      _ ≤ _ := by decide
theorem step_push {P : Program} {w : World} {ops : Array Oper} {o : Oper} {a : Act} {K : Act → World → Prop} {Q : Exit → Act → World → Prop} {E : Prop} (hgd : o.guard = none) (sl x : Operand) (t : TypeId)
    (ho : o.op = .call { callee := .builtin .append, args := #[sl, x], argTypes := #[t, t] })
    (base : Nat) (e : TypeId) (i : TypeInfo) (z : Value) (bytes : Nat) (ht : P.underlying t = some (.slice e)) (hi : P.info? e = some i) (hz : i.zero = some z)
    (hsize : i.size = 1) (hby : i.bytes = bytes) (hzs : z.cells.size = 1)
    (v : Value) (n : Nat) (xs : List Value) (hs : a.eval sl = v) (hown : w.ownsRow base e 1 v n xs)
    (ad : Addr) (u : Value) (hx : a.eval x = .slice (some ad) 1 1) (hc : w.cell? ad = some u) (h1 : u.oneCell' = true)
    (hl : n + 1 ≤ 1000000000) (hb : bytes ≤ 100000) (hbase : base ≤ w.heap.size)
    (h : ∀ v' w', w'.ownsRow base e 1 v' (n + 1) (xs ++ [u]) → w.grownBy w' v.ownBlock → (v'.ownBlock = v.ownBlock ∨ v'.ownBlock = some w.heap.size) → K (a.put o.dst v') w') :
    if Region.wanted o (yielded ops a.tmps) = true then Oper.wp P o a w K Q else E := by
  have hw : Region.wanted o (yielded ops a.tmps) = true := by simp [Region.wanted, hgd]
  rw [if_pos hw]
  have g1 : ∀ j u', [u][j]? = some u' → w.cell? (ad.add j) = some u' := by
    intro j u' hu
    match j, hu with
    | 0, hu => simp at hu; subst hu; rw [← hc]; cases ad; simp [Addr.add]
  have g2 : ∀ u' ∈ [u], u'.oneCell' = true := by
    intro u' hu
    simp at hu; subst hu; exact h1
  have g3 : (n + 1) * bytes ≤ 140737488355328 := by
    calc (n + 1) * bytes ≤ 1000000000 * 100000 := Nat.mul_le_mul hl hb
      _ ≤ _ := by decide
  obtain ⟨v', w', hr, h2, h3, _, h5⟩ := run_append_own_at (P := P) w base t o.type e i z 1 bytes ht hi hz hsize hby hzs (by decide) v n xs hown ad 1 1 [u] rfl g1 g2 (by unfold maxLen; omega) g3 hbase
  unfold Oper.wp execOp
  simp only [ho, resolve, invoke, builtin, Sem.run_bind, Sem.run_pure, Result.andThen_ok, List.map_toArray, List.map_cons, List.map_nil, hs, hx, hr]
  exact h v' w' h2 h3 h5
theorem below_push {B : Nat} {w wr w1 : World} {row : Option Nat} {o : Obj} (hb : Below B w wr) (hB : B ≤ w.heap.size) (n : Nat) (hg : ((wr.drewN n).alloc o).grownBy w1 row) (hr : ∀ k, row = some k → B ≤ k) : Below B w w1 := by
  have := hb.size
  exact ((below_drewN hb n).alloc (show B ≤ wr.heap.size by omega) o).grown hg (by simp; show B ≤ wr.heap.size + 1; omega) hr
theorem below_push0 {B : Nat} {w wr w1 : World} {row : Option Nat} {o : Obj} (hb : Below B w wr) (hB : B ≤ w.heap.size) (hg : (wr.alloc o).grownBy w1 row) (hr : ∀ k, row = some k → B ≤ k) : Below B w w1 := by
  have := hb.size
  exact (hb.alloc (show B ≤ wr.heap.size by omega) o).grown hg (by simp; omega) hr
theorem bytes_snoc (l : List UInt8) (c : Int) (u : UInt8) (h : c = u.toNat) : Lib.byteCells l ++ [.int .u8 c] = Lib.byteCells (l ++ [u]) := by subst h; simp [Lib.byteCells]
theorem ownsRow_snoc {w : World} {base : Nat} {e : TypeId} {v : Value} {l : List UInt8} {c : Int} (h : w.ownsRow base e 1 v (l.length + 1) (Lib.byteCells l ++ [.int .u8 c])) (u : UInt8) (hu : c = u.toNat) : w.ownsRow base e 1 v (l ++ [u]).length (Lib.byteCells (l ++ [u])) := by
  rw [bytes_snoc l c u hu] at h
  simpa using h
end Go.Proofs.YtehibiplodjofaaDoor
end
