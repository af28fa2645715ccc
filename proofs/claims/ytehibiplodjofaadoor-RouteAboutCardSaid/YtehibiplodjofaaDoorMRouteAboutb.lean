/- Texts of this proof, put together: H04, H05. -/
import Derived.Test.YtehibiplodjofaaDoorProg
import Derived.Test.YtehibiplodjofaaDoorMRouteAbouta
import Derived.Laws.BitsLemmas
section
/- The walks of SHA-256's words: turned, right (a count a walk). -/
namespace Go.Proofs.YtehibiplodjofaaDoor
open Go.RowKit
set_option linter.unusedVariables false
set_option linter.unusedSimpArgs false
def rot (x : UInt32) (n : UInt32) : UInt32 := (x >>> n) ||| (x <<< (32 - n))
theorem u32_nat (op : BinOp) (x y : UInt32) : bits op .u32 (x.toNat : Int) (y.toNat : Int) = (match op with | .and => ((x &&& y).toNat : Int) | .or => ((x ||| y).toNat : Int) | .xor => ((x ^^^ y).toNat : Int) | .andNot => bits .andNot .u32 x.toNat y.toNat | o => bits o .u32 x.toNat y.toNat) := by
  have hx := x.toNat_lt
  have hy := y.toNat_lt
  have h := bits_nat .u32 32 (by decide) (fun n h0 h1 => by rw [IntKind.wrap_u32]; omega) x.toNat y.toNat hx hy
  cases op <;> first | rfl | (simp only []; rw [h.1]; rw [UInt32.toNat_and]) | (simp only []; rw [h.2]; rw [UInt32.toNat_or]) | skip
  simp only [bits, BitVec.ofInt_natCast, BitVec.toNat_xor, BitVec.toNat_ofNat, UInt32.toNat_xor]
  rw [Nat.mod_eq_of_lt (show x.toNat < 2 ^ IntKind.u32.bits from hx), Nat.mod_eq_of_lt (show y.toNat < 2 ^ IntKind.u32.bits from hy), IntKind.wrap_u32]
  have := Nat.xor_lt_two_pow hx hy
  omega
theorem u32_and (x y : UInt32) : bits .and .u32 (x.toNat : Int) (y.toNat : Int) = ((x &&& y).toNat : Int) := u32_nat .and x y
theorem u32_or (x y : UInt32) : bits .or .u32 (x.toNat : Int) (y.toNat : Int) = ((x ||| y).toNat : Int) := u32_nat .or x y
theorem u32_xor (x y : UInt32) : bits .xor .u32 (x.toNat : Int) (y.toNat : Int) = ((x ^^^ y).toNat : Int) := u32_nat .xor x y
theorem u32_add (x y : UInt32) : ((x.toNat : Int) + (y.toNat : Int)) % 4294967296 = ((x + y).toNat : Int) := by rw [UInt32.toNat_add]; omega
theorem u32_add3 (a b c : UInt32) : ((a.toNat : Int) + b.toNat + c.toNat) % 4294967296 = ((a + b + c).toNat : Int) := by simp only [UInt32.toNat_add]; omega
theorem u32_add4 (a b c d : UInt32) : ((a.toNat : Int) + b.toNat + c.toNat + d.toNat) % 4294967296 = ((a + b + c + d).toNat : Int) := by simp only [UInt32.toNat_add]; omega
theorem u32_add5 (a b c d e : UInt32) : ((a.toNat : Int) + b.toNat + c.toNat + d.toNat + e.toNat) % 4294967296 = ((a + b + c + d + e).toNat : Int) := by simp only [UInt32.toNat_add]; omega
theorem u32_t12 (a b c d e f g : UInt32) : ((a.toNat : Int) + b.toNat + c.toNat + d.toNat + e.toNat + (f.toNat + g.toNat)) % 4294967296 = ((a + b + c + d + e + (f + g)).toNat : Int) := by simp only [UInt32.toNat_add]; omega
theorem u32_dt1 (a b c d e f : UInt32) : ((a.toNat : Int) + (b.toNat + c.toNat + d.toNat + e.toNat + f.toNat)) % 4294967296 = ((a + (b + c + d + e + f)).toNat : Int) := by simp only [UInt32.toNat_add]; omega
theorem u32_notx (x : UInt32) : bits .xor .u32 IntKind.u32.max (x.toNat : Int) = ((~~~x).toNat : Int) := by
  have e : IntKind.u32.max = ((0xFFFFFFFF : UInt32).toNat : Int) := rfl
  rw [e, u32_xor]
  congr 2
theorem u32_div (x : UInt32) (n : UInt32) (m : Nat) (h : m = 2 ^ n.toNat) (hn : n.toNat < 32) : (x.toNat : Int) / m = ((x >>> n).toNat : Int) := by
  rw [UInt32.toNat_shiftRight, Nat.mod_eq_of_lt hn, Nat.shiftRight_eq_div_pow, h]; rfl
theorem u32_mul (x : UInt32) (n : UInt32) (m : Nat) (h : m = 2 ^ n.toNat) (hn : n.toNat < 32) : (x.toNat : Int) * m % 4294967296 = ((x <<< n).toNat : Int) := by
  rw [UInt32.toNat_shiftLeft, Nat.mod_eq_of_lt hn, Nat.shiftLeft_eq, h]; rfl
theorem shr_2 (x : UInt32) : (x.toNat : Int) / (4 : Int) = ((x >>> 2).toNat : Int) := by have h := u32_div x 2 4 (by decide) (by decide); simpa using h
theorem shl_2 (x : UInt32) : (x.toNat : Int) * (1073741824 : Int) % (4294967296 : Int) = ((x <<< 30).toNat : Int) := by have h := u32_mul x 30 1073741824 (by decide) (by decide); simpa using h
theorem shr_3 (x : UInt32) : (x.toNat : Int) / (8 : Int) = ((x >>> 3).toNat : Int) := by have h := u32_div x 3 8 (by decide) (by decide); simpa using h
theorem shr_6 (x : UInt32) : (x.toNat : Int) / (64 : Int) = ((x >>> 6).toNat : Int) := by have h := u32_div x 6 64 (by decide) (by decide); simpa using h
theorem shl_6 (x : UInt32) : (x.toNat : Int) * (67108864 : Int) % (4294967296 : Int) = ((x <<< 26).toNat : Int) := by have h := u32_mul x 26 67108864 (by decide) (by decide); simpa using h
theorem shr_7 (x : UInt32) : (x.toNat : Int) / (128 : Int) = ((x >>> 7).toNat : Int) := by have h := u32_div x 7 128 (by decide) (by decide); simpa using h
theorem shl_7 (x : UInt32) : (x.toNat : Int) * (33554432 : Int) % (4294967296 : Int) = ((x <<< 25).toNat : Int) := by have h := u32_mul x 25 33554432 (by decide) (by decide); simpa using h
theorem shr_10 (x : UInt32) : (x.toNat : Int) / (1024 : Int) = ((x >>> 10).toNat : Int) := by have h := u32_div x 10 1024 (by decide) (by decide); simpa using h
theorem shr_11 (x : UInt32) : (x.toNat : Int) / (2048 : Int) = ((x >>> 11).toNat : Int) := by have h := u32_div x 11 2048 (by decide) (by decide); simpa using h
theorem shl_11 (x : UInt32) : (x.toNat : Int) * (2097152 : Int) % (4294967296 : Int) = ((x <<< 21).toNat : Int) := by have h := u32_mul x 21 2097152 (by decide) (by decide); simpa using h
theorem shr_13 (x : UInt32) : (x.toNat : Int) / (8192 : Int) = ((x >>> 13).toNat : Int) := by have h := u32_div x 13 8192 (by decide) (by decide); simpa using h
theorem shl_13 (x : UInt32) : (x.toNat : Int) * (524288 : Int) % (4294967296 : Int) = ((x <<< 19).toNat : Int) := by have h := u32_mul x 19 524288 (by decide) (by decide); simpa using h
theorem shr_17 (x : UInt32) : (x.toNat : Int) / (131072 : Int) = ((x >>> 17).toNat : Int) := by have h := u32_div x 17 131072 (by decide) (by decide); simpa using h
theorem shl_17 (x : UInt32) : (x.toNat : Int) * (32768 : Int) % (4294967296 : Int) = ((x <<< 15).toNat : Int) := by have h := u32_mul x 15 32768 (by decide) (by decide); simpa using h
theorem shr_18 (x : UInt32) : (x.toNat : Int) / (262144 : Int) = ((x >>> 18).toNat : Int) := by have h := u32_div x 18 262144 (by decide) (by decide); simpa using h
theorem shl_18 (x : UInt32) : (x.toNat : Int) * (16384 : Int) % (4294967296 : Int) = ((x <<< 14).toNat : Int) := by have h := u32_mul x 14 16384 (by decide) (by decide); simpa using h
theorem shr_19 (x : UInt32) : (x.toNat : Int) / (524288 : Int) = ((x >>> 19).toNat : Int) := by have h := u32_div x 19 524288 (by decide) (by decide); simpa using h
theorem shl_19 (x : UInt32) : (x.toNat : Int) * (8192 : Int) % (4294967296 : Int) = ((x <<< 13).toNat : Int) := by have h := u32_mul x 13 8192 (by decide) (by decide); simpa using h
theorem shr_22 (x : UInt32) : (x.toNat : Int) / (4194304 : Int) = ((x >>> 22).toNat : Int) := by have h := u32_div x 22 4194304 (by decide) (by decide); simpa using h
theorem shl_22 (x : UInt32) : (x.toNat : Int) * (1024 : Int) % (4294967296 : Int) = ((x <<< 10).toNat : Int) := by have h := u32_mul x 10 1024 (by decide) (by decide); simpa using h
theorem shr_25 (x : UInt32) : (x.toNat : Int) / (33554432 : Int) = ((x >>> 25).toNat : Int) := by have h := u32_div x 25 33554432 (by decide) (by decide); simpa using h
theorem shl_25 (x : UInt32) : (x.toNat : Int) * (128 : Int) % (4294967296 : Int) = ((x <<< 7).toNat : Int) := by have h := u32_mul x 7 128 (by decide) (by decide); simpa using h
theorem turned_2 (x : UInt32) (w : World) : Calls Tryd.prog 67 #[.int .u32 (x.toNat : Int), .int .i64 2] w fun e w' => e = .returned (.int .u32 ((rot x 2).toNat : Int)) ∧ w' = w := by
  have hx := x.toNat_lt
  have e1 : bits .and .u64 (IntKind.u64.wrap (-2)) 31 = 30 := by decide +kernel
  go_enter Tryd.func67, Tryd.ntmps67
  go_wp2
  go_ret
  exact ⟨ret_int (by rw [shr_2, shl_2, u32_or, UInt32.or_comm]; rfl), rfl⟩
theorem turned_6 (x : UInt32) (w : World) : Calls Tryd.prog 67 #[.int .u32 (x.toNat : Int), .int .i64 6] w fun e w' => e = .returned (.int .u32 ((rot x 6).toNat : Int)) ∧ w' = w := by
  have hx := x.toNat_lt
  have e1 : bits .and .u64 (IntKind.u64.wrap (-6)) 31 = 26 := by decide +kernel
  go_enter Tryd.func67, Tryd.ntmps67
  go_wp2
  go_ret
  exact ⟨ret_int (by rw [shr_6, shl_6, u32_or, UInt32.or_comm]; rfl), rfl⟩
theorem turned_7 (x : UInt32) (w : World) : Calls Tryd.prog 67 #[.int .u32 (x.toNat : Int), .int .i64 7] w fun e w' => e = .returned (.int .u32 ((rot x 7).toNat : Int)) ∧ w' = w := by
  have hx := x.toNat_lt
  have e1 : bits .and .u64 (IntKind.u64.wrap (-7)) 31 = 25 := by decide +kernel
  go_enter Tryd.func67, Tryd.ntmps67
  go_wp2
  go_ret
  exact ⟨ret_int (by rw [shr_7, shl_7, u32_or, UInt32.or_comm]; rfl), rfl⟩
theorem turned_11 (x : UInt32) (w : World) : Calls Tryd.prog 67 #[.int .u32 (x.toNat : Int), .int .i64 11] w fun e w' => e = .returned (.int .u32 ((rot x 11).toNat : Int)) ∧ w' = w := by
  have hx := x.toNat_lt
  have e1 : bits .and .u64 (IntKind.u64.wrap (-11)) 31 = 21 := by decide +kernel
  go_enter Tryd.func67, Tryd.ntmps67
  go_wp2
  go_ret
  exact ⟨ret_int (by rw [shr_11, shl_11, u32_or, UInt32.or_comm]; rfl), rfl⟩
theorem turned_13 (x : UInt32) (w : World) : Calls Tryd.prog 67 #[.int .u32 (x.toNat : Int), .int .i64 13] w fun e w' => e = .returned (.int .u32 ((rot x 13).toNat : Int)) ∧ w' = w := by
  have hx := x.toNat_lt
  have e1 : bits .and .u64 (IntKind.u64.wrap (-13)) 31 = 19 := by decide +kernel
  go_enter Tryd.func67, Tryd.ntmps67
  go_wp2
  go_ret
  exact ⟨ret_int (by rw [shr_13, shl_13, u32_or, UInt32.or_comm]; rfl), rfl⟩
theorem turned_17 (x : UInt32) (w : World) : Calls Tryd.prog 67 #[.int .u32 (x.toNat : Int), .int .i64 17] w fun e w' => e = .returned (.int .u32 ((rot x 17).toNat : Int)) ∧ w' = w := by
  have hx := x.toNat_lt
  have e1 : bits .and .u64 (IntKind.u64.wrap (-17)) 31 = 15 := by decide +kernel
  go_enter Tryd.func67, Tryd.ntmps67
  go_wp2
  go_ret
  exact ⟨ret_int (by rw [shr_17, shl_17, u32_or, UInt32.or_comm]; rfl), rfl⟩
theorem turned_18 (x : UInt32) (w : World) : Calls Tryd.prog 67 #[.int .u32 (x.toNat : Int), .int .i64 18] w fun e w' => e = .returned (.int .u32 ((rot x 18).toNat : Int)) ∧ w' = w := by
  have hx := x.toNat_lt
  have e1 : bits .and .u64 (IntKind.u64.wrap (-18)) 31 = 14 := by decide +kernel
  go_enter Tryd.func67, Tryd.ntmps67
  go_wp2
  go_ret
  exact ⟨ret_int (by rw [shr_18, shl_18, u32_or, UInt32.or_comm]; rfl), rfl⟩
theorem turned_19 (x : UInt32) (w : World) : Calls Tryd.prog 67 #[.int .u32 (x.toNat : Int), .int .i64 19] w fun e w' => e = .returned (.int .u32 ((rot x 19).toNat : Int)) ∧ w' = w := by
  have hx := x.toNat_lt
  have e1 : bits .and .u64 (IntKind.u64.wrap (-19)) 31 = 13 := by decide +kernel
  go_enter Tryd.func67, Tryd.ntmps67
  go_wp2
  go_ret
  exact ⟨ret_int (by rw [shr_19, shl_19, u32_or, UInt32.or_comm]; rfl), rfl⟩
theorem turned_22 (x : UInt32) (w : World) : Calls Tryd.prog 67 #[.int .u32 (x.toNat : Int), .int .i64 22] w fun e w' => e = .returned (.int .u32 ((rot x 22).toNat : Int)) ∧ w' = w := by
  have hx := x.toNat_lt
  have e1 : bits .and .u64 (IntKind.u64.wrap (-22)) 31 = 10 := by decide +kernel
  go_enter Tryd.func67, Tryd.ntmps67
  go_wp2
  go_ret
  exact ⟨ret_int (by rw [shr_22, shl_22, u32_or, UInt32.or_comm]; rfl), rfl⟩
theorem turned_25 (x : UInt32) (w : World) : Calls Tryd.prog 67 #[.int .u32 (x.toNat : Int), .int .i64 25] w fun e w' => e = .returned (.int .u32 ((rot x 25).toNat : Int)) ∧ w' = w := by
  have hx := x.toNat_lt
  have e1 : bits .and .u64 (IntKind.u64.wrap (-25)) 31 = 7 := by decide +kernel
  go_enter Tryd.func67, Tryd.ntmps67
  go_wp2
  go_ret
  exact ⟨ret_int (by rw [shr_25, shl_25, u32_or, UInt32.or_comm]; rfl), rfl⟩
def cnt (n : Int) : UInt32 := UInt32.ofNat n.toNat
def Cnt (n : Int) : Prop := n = 2 ∨ n = 6 ∨ n = 7 ∨ n = 11 ∨ n = 13 ∨ n = 17 ∨ n = 18 ∨ n = 19 ∨ n = 22 ∨ n = 25
theorem turned_c (x : UInt32) (n : Int) (w : World) (h : Cnt n) : Calls Tryd.prog 67 #[.int .u32 (x.toNat : Int), .int .i64 n] w fun e w' => e = .returned (.int .u32 ((rot x (cnt n)).toNat : Int)) ∧ w' = w := by
  rcases h with rfl | rfl | rfl | rfl | rfl | rfl | rfl | rfl | rfl | rfl
  · exact turned_2 x w
  · exact turned_6 x w
  · exact turned_7 x w
  · exact turned_11 x w
  · exact turned_13 x w
  · exact turned_17 x w
  · exact turned_18 x w
  · exact turned_19 x w
  · exact turned_22 x w
  · exact turned_25 x w
theorem cnt_2 : cnt 2 = 2 := by decide +kernel
theorem cnt_6 : cnt 6 = 6 := by decide +kernel
theorem cnt_7 : cnt 7 = 7 := by decide +kernel
theorem cnt_11 : cnt 11 = 11 := by decide +kernel
theorem cnt_13 : cnt 13 = 13 := by decide +kernel
theorem cnt_17 : cnt 17 = 17 := by decide +kernel
theorem cnt_18 : cnt 18 = 18 := by decide +kernel
theorem cnt_19 : cnt 19 = 19 := by decide +kernel
theorem cnt_22 : cnt 22 = 22 := by decide +kernel
theorem cnt_25 : cnt 25 = 25 := by decide +kernel
end Go.Proofs.YtehibiplodjofaaDoor
end
section
/- Arrays of 32-bit words in memory; SHA-256's schedule and rounds, in plain words. -/
namespace Go.Proofs.YtehibiplodjofaaDoor
open Go.RowKit
set_option linter.unusedVariables false
set_option linter.unusedSimpArgs false
def U (x : UInt32) : Value := .int .u32 (x.toNat : Int)
/-- The cells of an array of n words. -/
def Arr (w : World) (B : Nat) (f : Nat → UInt32) (n : Nat) : Prop := ∀ j, j < n → w.cell? ⟨B, j, none⟩ = some (U (f j)) ∧ w.frozen? ⟨B, j, none⟩ = false
section
variable {w : World} {B : Nat} {f g : Nat → UInt32} {n : Nat}
theorem Arr.cell (h : Arr w B f n) {j : Nat} (hj : j < n) : w.cell? ⟨B, j, none⟩ = some (.int .u32 ((f j).toNat : Int)) := (h j hj).1
theorem Arr.froz (h : Arr w B f n) {j : Nat} (hj : j < n) : w.frozen? ⟨B, j, none⟩ = false := (h j hj).2
theorem Arr.drewN (h : Arr w B f n) (m : Nat) : Arr (w.drewN m) B f n := fun j hj => h j hj
theorem Arr.congr (h : Arr w B f n) (e : ∀ j, j < n → f j = g j) : Arr w B g n := fun j hj => by rw [← e j hj]; exact h j hj
theorem Arr.ofBlock {w' : World} (h : Arr w B f n) (e : w'.heap[B]? = w.heap[B]?) : Arr w' B f n := fun j hj => ⟨(World.cell?_of_block (w := w) (w' := w') (a := ⟨B, j, none⟩) e).trans (h j hj).1, (World.frozen?_of_block (w := w) (w' := w') (a := ⟨B, j, none⟩) e).trans (h j hj).2⟩
theorem Arr.below {w' : World} (h : Arr w B f n) (hB : B < w.heap.size) (hb : Below w.heap.size w w') : Arr w' B f n := h.ofBlock (hb.block B hB)
theorem Arr.alloc (h : Arr w B f n) (hB : B < w.heap.size) (o : Obj) : Arr (w.alloc o) B f n := h.below hB ((Below.refl _ w).alloc (Nat.le_refl _) o)
theorem Arr.other (h : Arr w B f n) {p : Addr} (hp : p.block ≠ B) (v : Value) : Arr (w.setCell p v) B f n := fun j hj => by
  refine ⟨?_, by rw [World.frozen?_setCell]; exact (h j hj).2⟩
  rw [World.cell?_setCell_other w p ⟨B, j, none⟩ v (by intro e; exact hp (by rw [e]))]
  exact (h j hj).1
theorem Arr.set (h : Arr w B f n) {t : Nat} (ht : t < n) (x : UInt32) : Arr (w.setCell ⟨B, t, none⟩ (.int .u32 (x.toNat : Int))) B (fun j => if j = t then x else f j) n := fun j hj => by
  refine ⟨?_, by rw [World.frozen?_setCell]; exact (h j hj).2⟩
  by_cases e : j = t
  · subst e
    simp only [if_true]
    exact World.cell?_setCell_same' _ _ _ (by rw [(h j hj).1]; rfl)
  · simp only [if_neg e]
    rw [World.cell?_setCell_other w ⟨B, t, none⟩ ⟨B, j, none⟩ _ (by intro he; exact e (by injection he with _ h2 _; exact h2.symm))]
    exact (h j hj).1
end
/-! The plain side. -/
def wpart (l : List UInt8) (i : Nat) : UInt32 := (l.take i).foldl (fun a c => (a <<< 8) ||| c.toUInt32) 0
def wordAt (l : List UInt8) (t : Nat) : UInt32 := wpart (l.drop (4 * t)) 4
def sg0 (x : UInt32) : UInt32 := rot x 7 ^^^ rot x 18 ^^^ (x >>> 3)
def sg1 (x : UInt32) : UInt32 := rot x 17 ^^^ rot x 19 ^^^ (x >>> 10)
theorem sg0_def (x : UInt32) : sg0 x = rot x 7 ^^^ rot x 18 ^^^ (x >>> 3) := rfl
theorem sg1_def (x : UInt32) : sg1 x = rot x 17 ^^^ rot x 19 ^^^ (x >>> 10) := rfl
def sNext (ws : List UInt32) : UInt32 := sg1 (ws.getD (ws.length - 2) 0) + ws.getD (ws.length - 7) 0 + sg0 (ws.getD (ws.length - 15) 0) + ws.getD (ws.length - 16) 0
def sGrow : Nat → List UInt32 → List UInt32
  | 0, ws => ws
  | n + 1, ws => sGrow n (ws ++ [sNext ws])
def sched (l : List UInt8) : List UInt32 := sGrow 48 ((List.range 16).map (wordAt l))
def schedF (l : List UInt8) (j : Nat) : UInt32 := (sched l).getD j 0
theorem sGrow_get (n : Nat) (ws : List UInt32) : (∀ j, j < ws.length → (sGrow n ws).getD j 0 = ws.getD j 0) ∧ (sGrow n ws).length = ws.length + n ∧
    (16 ≤ ws.length → ∀ j, ws.length ≤ j → j < ws.length + n → (sGrow n ws).getD j 0 = sg1 ((sGrow n ws).getD (j - 2) 0) + (sGrow n ws).getD (j - 7) 0 + sg0 ((sGrow n ws).getD (j - 15) 0) + (sGrow n ws).getD (j - 16) 0) := by
  induction n generalizing ws with
  | zero => exact ⟨fun _ _ => rfl, rfl, fun _ j h1 h2 => by omega⟩
  | succ n ih =>
    obtain ⟨h1, h2, h3⟩ := ih (ws ++ [sNext ws])
    simp only [List.length_append, List.length_cons, List.length_nil] at h1 h2 h3
    have low : ∀ j, j < ws.length → (sGrow (n + 1) ws).getD j 0 = ws.getD j 0 := fun j hj => by
      show (sGrow n (ws ++ [sNext ws])).getD j 0 = _
      rw [h1 j (by omega)]
      simp [List.getD_eq_getElem?_getD, List.getElem?_append_left hj]
    refine ⟨low, by show (sGrow n (ws ++ [sNext ws])).length = _; omega, fun h16 j hj1 hj2 => ?_⟩
    by_cases e : j = ws.length
    · subst e
      rw [low (ws.length - 2) (by omega), low (ws.length - 7) (by omega), low (ws.length - 15) (by omega), low (ws.length - 16) (by omega)]
      show (sGrow n (ws ++ [sNext ws])).getD ws.length 0 = _
      rw [h1 _ (by omega)]
      simp [List.getD_eq_getElem?_getD, sNext]
    · exact h3 (by omega) j (by omega) (by omega)
theorem schedF_lo (l : List UInt8) (j : Nat) (hj : j < 16) : schedF l j = wordAt l j := by
  unfold schedF sched
  rw [(sGrow_get 48 _).1 j (by simpa using hj)]
  simp [List.getD_eq_getElem?_getD, hj]
theorem schedF_hi (l : List UInt8) (j : Nat) (h1 : 16 ≤ j) (h2 : j < 64) : schedF l j = sg1 (schedF l (j - 2)) + schedF l (j - 7) + sg0 (schedF l (j - 15)) + schedF l (j - 16) := by
  unfold schedF sched
  exact (sGrow_get 48 _).2.2 (by simp) j (by simpa using h1) (by simpa using h2)
structure S8 where
  (a b c d e f g h : UInt32)
def bs0 (x : UInt32) : UInt32 := rot x 2 ^^^ rot x 13 ^^^ rot x 22
def bs1 (x : UInt32) : UInt32 := rot x 6 ^^^ rot x 11 ^^^ rot x 25
theorem bs0_def (x : UInt32) : bs0 x = rot x 2 ^^^ rot x 13 ^^^ rot x 22 := rfl
theorem bs1_def (x : UInt32) : bs1 x = rot x 6 ^^^ rot x 11 ^^^ rot x 25 := rfl
def rT1 (s : S8) (k w : UInt32) : UInt32 := s.h + bs1 s.e + ((s.e &&& s.f) ^^^ (~~~s.e &&& s.g)) + k + w
def rT2 (s : S8) : UInt32 := bs0 s.a + ((s.a &&& s.b) ^^^ (s.a &&& s.c) ^^^ (s.b &&& s.c))
def rnd (s : S8) (k w : UInt32) : S8 := ⟨rT1 s k w + rT2 s, s.a, s.b, s.c, s.d + rT1 s k w, s.e, s.f, s.g⟩
def rnds (K : List UInt32) (l : List UInt8) (s : S8) (n : Nat) : S8 := (List.range n).foldl (fun s t => rnd s (K.getD t 0) (schedF l t)) s
theorem rnds_succ (K : List UInt32) (l : List UInt8) (s : S8) (n : Nat) : rnds K l s (n + 1) = rnd (rnds K l s n) (K.getD n 0) (schedF l n) := by simp [rnds, List.range_succ]
def addS (s t : S8) : S8 := ⟨s.a + t.a, s.b + t.b, s.c + t.c, s.d + t.d, s.e + t.e, s.f + t.f, s.g + t.g, s.h + t.h⟩
/-- A block, in. -/
def blockS (K : List UInt32) (s : S8) (l : List UInt8) : S8 := addS s (rnds K l s 64)
def S8.at (s : S8) (j : Nat) : UInt32 := match j with | 0 => s.a | 1 => s.b | 2 => s.c | 3 => s.d | 4 => s.e | 5 => s.f | 6 => s.g | _ => s.h
def S8.vals (s : S8) : Array Value := #[.int .u32 (s.a.toNat : Int), .int .u32 (s.b.toNat : Int), .int .u32 (s.c.toNat : Int), .int .u32 (s.d.toNat : Int), .int .u32 (s.e.toNat : Int), .int .u32 (s.f.toNat : Int), .int .u32 (s.g.toNat : Int), .int .u32 (s.h.toNat : Int)]
end Go.Proofs.YtehibiplodjofaaDoor
end
