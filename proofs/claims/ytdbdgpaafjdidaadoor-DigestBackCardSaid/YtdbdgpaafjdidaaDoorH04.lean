/- The walks of SHA-256's words: turned, right (a count a walk). -/
import Derived.Test.YtdbdgpaafjdidaaDoorProg
import Derived.Test.YtdbdgpaafjdidaaDoorBase
import Derived.Laws.BitsLemmas
namespace Go.Proofs.YtdbdgpaafjdidaaDoor
open Go.RowKit
set_option linter.unusedVariables false
set_option linter.unusedSimpArgs false
def rot (x : UInt32) (n : UInt32) : UInt32 := (x >>> n) ||| (x <<< (32 - n))
theorem u32_nat (op : BinOp) (x y : UInt32) : bits op .u32 (x.toNat : Int) (y.toNat : Int) = (match op with | .and => ((x &&& y).toNat : Int) | .or => ((x ||| y).toNat : Int) | .xor => ((x ^^^ y).toNat : Int) | .andNot => bits .andNot .u32 x.toNat y.toNat | o => bits o .u32 x.toNat y.toNat) := by
  have hx := x.toNat_lt
  have hy := y.toNat_lt
  have h := bits_nat .u32 32 (by decide) (fun n h0 h1 => by rw [IntKind.wrap_u32]; omega) x.toNat y.toNat hx hy
  cases op <;> first | rfl | (simp only []; rw [h.1]; rw [UInt32.toNat_and]) | (simp only []; rw [h.2]; rw [UInt32.toNat_or]) | skip
  simp only [bits, BitVec.ofInt_natCast, BitVec.toNat_xor, BitVec.toNat_ofNat, UInt32.toNat_xor]
  rw [Nat.mod_eq_of_lt (show x.toNat < 2 ^ IntKind.u32.bits from hx), Nat.mod_eq_of_lt (show y.toNat < 2 ^ IntKind.u32.bits from hy), IntKind.wrap_u32]
  have := Nat.xor_lt_two_pow hx hy
  omega
theorem u32_and (x y : UInt32) : bits .and .u32 (x.toNat : Int) (y.toNat : Int) = ((x &&& y).toNat : Int) := u32_nat .and x y
theorem u32_or (x y : UInt32) : bits .or .u32 (x.toNat : Int) (y.toNat : Int) = ((x ||| y).toNat : Int) := u32_nat .or x y
theorem u32_xor (x y : UInt32) : bits .xor .u32 (x.toNat : Int) (y.toNat : Int) = ((x ^^^ y).toNat : Int) := u32_nat .xor x y
theorem u32_add (x y : UInt32) : ((x.toNat : Int) + (y.toNat : Int)) % 4294967296 = ((x + y).toNat : Int) := by rw [UInt32.toNat_add]; omega
theorem u32_add3 (a b c : UInt32) : ((a.toNat : Int) + b.toNat + c.toNat) % 4294967296 = ((a + b + c).toNat : Int) := by simp only [UInt32.toNat_add]; omega
theorem u32_add4 (a b c d : UInt32) : ((a.toNat : Int) + b.toNat + c.toNat + d.toNat) % 4294967296 = ((a + b + c + d).toNat : Int) := by simp only [UInt32.toNat_add]; omega
theorem u32_add5 (a b c d e : UInt32) : ((a.toNat : Int) + b.toNat + c.toNat + d.toNat + e.toNat) % 4294967296 = ((a + b + c + d + e).toNat : Int) := by simp only [UInt32.toNat_add]; omega
theorem u32_t12 (a b c d e f g : UInt32) : ((a.toNat : Int) + b.toNat + c.toNat + d.toNat + e.toNat + (f.toNat + g.toNat)) % 4294967296 = ((a + b + c + d + e + (f + g)).toNat : Int) := by simp only [UInt32.toNat_add]; omega
theorem u32_dt1 (a b c d e f : UInt32) : ((a.toNat : Int) + (b.toNat + c.toNat + d.toNat + e.toNat + f.toNat)) % 4294967296 = ((a + (b + c + d + e + f)).toNat : Int) := by simp only [UInt32.toNat_add]; omega
theorem u32_notx (x : UInt32) : bits .xor .u32 IntKind.u32.max (x.toNat : Int) = ((~~~x).toNat : Int) := by
  have e : IntKind.u32.max = ((0xFFFFFFFF : UInt32).toNat : Int) := rfl
  rw [e, u32_xor]
  congr 2
theorem u32_div (x : UInt32) (n : UInt32) (m : Nat) (h : m = 2 ^ n.toNat) (hn : n.toNat < 32) : (x.toNat : Int) / m = ((x >>> n).toNat : Int) := by
  rw [UInt32.toNat_shiftRight, Nat.mod_eq_of_lt hn, Nat.shiftRight_eq_div_pow, h]; rfl
theorem u32_mul (x : UInt32) (n : UInt32) (m : Nat) (h : m = 2 ^ n.toNat) (hn : n.toNat < 32) : (x.toNat : Int) * m % 4294967296 = ((x <<< n).toNat : Int) := by
  rw [UInt32.toNat_shiftLeft, Nat.mod_eq_of_lt hn, Nat.shiftLeft_eq, h]; rfl
theorem u32_not (x : UInt32) : (4294967295 : Int) - (x.toNat : Int) = ((~~~x).toNat : Int) := by
  have := x.toNat_lt
  rw [UInt32.toNat_not]; simp [UInt32.size]; omega
theorem shr_2 (x : UInt32) : (x.toNat : Int) / (4 : Int) = ((x >>> 2).toNat : Int) := by have h := u32_div x 2 4 (by decide) (by decide); simpa using h
theorem shl_2 (x : UInt32) : (x.toNat : Int) * (1073741824 : Int) % (4294967296 : Int) = ((x <<< 30).toNat : Int) := by have h := u32_mul x 30 1073741824 (by decide) (by decide); simpa using h
theorem shr_3 (x : UInt32) : (x.toNat : Int) / (8 : Int) = ((x >>> 3).toNat : Int) := by have h := u32_div x 3 8 (by decide) (by decide); simpa using h
theorem shl_3 (x : UInt32) : (x.toNat : Int) * (536870912 : Int) % (4294967296 : Int) = ((x <<< 29).toNat : Int) := by have h := u32_mul x 29 536870912 (by decide) (by decide); simpa using h
theorem shr_6 (x : UInt32) : (x.toNat : Int) / (64 : Int) = ((x >>> 6).toNat : Int) := by have h := u32_div x 6 64 (by decide) (by decide); simpa using h
theorem shl_6 (x : UInt32) : (x.toNat : Int) * (67108864 : Int) % (4294967296 : Int) = ((x <<< 26).toNat : Int) := by have h := u32_mul x 26 67108864 (by decide) (by decide); simpa using h
theorem shr_7 (x : UInt32) : (x.toNat : Int) / (128 : Int) = ((x >>> 7).toNat : Int) := by have h := u32_div x 7 128 (by decide) (by decide); simpa using h
theorem shl_7 (x : UInt32) : (x.toNat : Int) * (33554432 : Int) % (4294967296 : Int) = ((x <<< 25).toNat : Int) := by have h := u32_mul x 25 33554432 (by decide) (by decide); simpa using h
theorem shr_8 (x : UInt32) : (x.toNat : Int) / (256 : Int) = ((x >>> 8).toNat : Int) := by have h := u32_div x 8 256 (by decide) (by decide); simpa using h
theorem shl_8 (x : UInt32) : (x.toNat : Int) * (16777216 : Int) % (4294967296 : Int) = ((x <<< 24).toNat : Int) := by have h := u32_mul x 24 16777216 (by decide) (by decide); simpa using h
theorem shr_10 (x : UInt32) : (x.toNat : Int) / (1024 : Int) = ((x >>> 10).toNat : Int) := by have h := u32_div x 10 1024 (by decide) (by decide); simpa using h
theorem shl_10 (x : UInt32) : (x.toNat : Int) * (4194304 : Int) % (4294967296 : Int) = ((x <<< 22).toNat : Int) := by have h := u32_mul x 22 4194304 (by decide) (by decide); simpa using h
theorem shr_11 (x : UInt32) : (x.toNat : Int) / (2048 : Int) = ((x >>> 11).toNat : Int) := by have h := u32_div x 11 2048 (by decide) (by decide); simpa using h
theorem shl_11 (x : UInt32) : (x.toNat : Int) * (2097152 : Int) % (4294967296 : Int) = ((x <<< 21).toNat : Int) := by have h := u32_mul x 21 2097152 (by decide) (by decide); simpa using h
theorem shr_13 (x : UInt32) : (x.toNat : Int) / (8192 : Int) = ((x >>> 13).toNat : Int) := by have h := u32_div x 13 8192 (by decide) (by decide); simpa using h
theorem shl_13 (x : UInt32) : (x.toNat : Int) * (524288 : Int) % (4294967296 : Int) = ((x <<< 19).toNat : Int) := by have h := u32_mul x 19 524288 (by decide) (by decide); simpa using h
theorem shr_16 (x : UInt32) : (x.toNat : Int) / (65536 : Int) = ((x >>> 16).toNat : Int) := by have h := u32_div x 16 65536 (by decide) (by decide); simpa using h
theorem shl_16 (x : UInt32) : (x.toNat : Int) * (65536 : Int) % (4294967296 : Int) = ((x <<< 16).toNat : Int) := by have h := u32_mul x 16 65536 (by decide) (by decide); simpa using h
theorem shr_17 (x : UInt32) : (x.toNat : Int) / (131072 : Int) = ((x >>> 17).toNat : Int) := by have h := u32_div x 17 131072 (by decide) (by decide); simpa using h
theorem shl_17 (x : UInt32) : (x.toNat : Int) * (32768 : Int) % (4294967296 : Int) = ((x <<< 15).toNat : Int) := by have h := u32_mul x 15 32768 (by decide) (by decide); simpa using h
theorem shr_18 (x : UInt32) : (x.toNat : Int) / (262144 : Int) = ((x >>> 18).toNat : Int) := by have h := u32_div x 18 262144 (by decide) (by decide); simpa using h
theorem shl_18 (x : UInt32) : (x.toNat : Int) * (16384 : Int) % (4294967296 : Int) = ((x <<< 14).toNat : Int) := by have h := u32_mul x 14 16384 (by decide) (by decide); simpa using h
theorem shr_19 (x : UInt32) : (x.toNat : Int) / (524288 : Int) = ((x >>> 19).toNat : Int) := by have h := u32_div x 19 524288 (by decide) (by decide); simpa using h
theorem shl_19 (x : UInt32) : (x.toNat : Int) * (8192 : Int) % (4294967296 : Int) = ((x <<< 13).toNat : Int) := by have h := u32_mul x 13 8192 (by decide) (by decide); simpa using h
theorem shr_22 (x : UInt32) : (x.toNat : Int) / (4194304 : Int) = ((x >>> 22).toNat : Int) := by have h := u32_div x 22 4194304 (by decide) (by decide); simpa using h
theorem shl_22 (x : UInt32) : (x.toNat : Int) * (1024 : Int) % (4294967296 : Int) = ((x <<< 10).toNat : Int) := by have h := u32_mul x 10 1024 (by decide) (by decide); simpa using h
theorem shr_24 (x : UInt32) : (x.toNat : Int) / (16777216 : Int) = ((x >>> 24).toNat : Int) := by have h := u32_div x 24 16777216 (by decide) (by decide); simpa using h
theorem shl_24 (x : UInt32) : (x.toNat : Int) * (256 : Int) % (4294967296 : Int) = ((x <<< 8).toNat : Int) := by have h := u32_mul x 8 256 (by decide) (by decide); simpa using h
theorem shr_25 (x : UInt32) : (x.toNat : Int) / (33554432 : Int) = ((x >>> 25).toNat : Int) := by have h := u32_div x 25 33554432 (by decide) (by decide); simpa using h
theorem shl_25 (x : UInt32) : (x.toNat : Int) * (128 : Int) % (4294967296 : Int) = ((x <<< 7).toNat : Int) := by have h := u32_mul x 7 128 (by decide) (by decide); simpa using h
theorem right_2 (x : UInt32) (w : World) : Calls Tryd.prog 56 #[.int .u32 (x.toNat : Int), .int .i64 2] w fun e w' => e = .returned (.int .u32 ((rot x 2).toNat : Int)) ∧ ∃ n, w' = w.drewN n := by
  have hx := x.toNat_lt
  go_enter Tryd.func56, Tryd.ntmps56
  go_wp2
  go_quiet (fail)
  go_wp2
  go_ret
  exact ⟨ret_int (by rw [shr_2, shl_2, u32_or]; rfl), _, rfl⟩
theorem turned_2 (x : UInt32) (w : World) : Calls Tryd.prog 55 #[.int .u32 (x.toNat : Int), .int .i64 2] w fun e w' => e = .returned (.int .u32 ((rot x 2).toNat : Int)) ∧ w' = w := by
  have hx := x.toNat_lt
  have e1 : bits .and .u64 (IntKind.u64.wrap (-2)) 31 = 30 := by decide +kernel
  go_enter Tryd.func55, Tryd.ntmps55
  go_wp2
  go_ret
  exact ⟨ret_int (by rw [shr_2, shl_2, u32_or, UInt32.or_comm]; rfl), rfl⟩
theorem right_6 (x : UInt32) (w : World) : Calls Tryd.prog 56 #[.int .u32 (x.toNat : Int), .int .i64 6] w fun e w' => e = .returned (.int .u32 ((rot x 6).toNat : Int)) ∧ ∃ n, w' = w.drewN n := by
  have hx := x.toNat_lt
  go_enter Tryd.func56, Tryd.ntmps56
  go_wp2
  go_quiet (fail)
  go_wp2
  go_ret
  exact ⟨ret_int (by rw [shr_6, shl_6, u32_or]; rfl), _, rfl⟩
theorem turned_6 (x : UInt32) (w : World) : Calls Tryd.prog 55 #[.int .u32 (x.toNat : Int), .int .i64 6] w fun e w' => e = .returned (.int .u32 ((rot x 6).toNat : Int)) ∧ w' = w := by
  have hx := x.toNat_lt
  have e1 : bits .and .u64 (IntKind.u64.wrap (-6)) 31 = 26 := by decide +kernel
  go_enter Tryd.func55, Tryd.ntmps55
  go_wp2
  go_ret
  exact ⟨ret_int (by rw [shr_6, shl_6, u32_or, UInt32.or_comm]; rfl), rfl⟩
theorem right_7 (x : UInt32) (w : World) : Calls Tryd.prog 56 #[.int .u32 (x.toNat : Int), .int .i64 7] w fun e w' => e = .returned (.int .u32 ((rot x 7).toNat : Int)) ∧ ∃ n, w' = w.drewN n := by
  have hx := x.toNat_lt
  go_enter Tryd.func56, Tryd.ntmps56
  go_wp2
  go_quiet (fail)
  go_wp2
  go_ret
  exact ⟨ret_int (by rw [shr_7, shl_7, u32_or]; rfl), _, rfl⟩
theorem turned_7 (x : UInt32) (w : World) : Calls Tryd.prog 55 #[.int .u32 (x.toNat : Int), .int .i64 7] w fun e w' => e = .returned (.int .u32 ((rot x 7).toNat : Int)) ∧ w' = w := by
  have hx := x.toNat_lt
  have e1 : bits .and .u64 (IntKind.u64.wrap (-7)) 31 = 25 := by decide +kernel
  go_enter Tryd.func55, Tryd.ntmps55
  go_wp2
  go_ret
  exact ⟨ret_int (by rw [shr_7, shl_7, u32_or, UInt32.or_comm]; rfl), rfl⟩
theorem right_11 (x : UInt32) (w : World) : Calls Tryd.prog 56 #[.int .u32 (x.toNat : Int), .int .i64 11] w fun e w' => e = .returned (.int .u32 ((rot x 11).toNat : Int)) ∧ ∃ n, w' = w.drewN n := by
  have hx := x.toNat_lt
  go_enter Tryd.func56, Tryd.ntmps56
  go_wp2
  go_quiet (fail)
  go_wp2
  go_ret
  exact ⟨ret_int (by rw [shr_11, shl_11, u32_or]; rfl), _, rfl⟩
theorem turned_11 (x : UInt32) (w : World) : Calls Tryd.prog 55 #[.int .u32 (x.toNat : Int), .int .i64 11] w fun e w' => e = .returned (.int .u32 ((rot x 11).toNat : Int)) ∧ w' = w := by
  have hx := x.toNat_lt
  have e1 : bits .and .u64 (IntKind.u64.wrap (-11)) 31 = 21 := by decide +kernel
  go_enter Tryd.func55, Tryd.ntmps55
  go_wp2
  go_ret
  exact ⟨ret_int (by rw [shr_11, shl_11, u32_or, UInt32.or_comm]; rfl), rfl⟩
theorem right_13 (x : UInt32) (w : World) : Calls Tryd.prog 56 #[.int .u32 (x.toNat : Int), .int .i64 13] w fun e w' => e = .returned (.int .u32 ((rot x 13).toNat : Int)) ∧ ∃ n, w' = w.drewN n := by
  have hx := x.toNat_lt
  go_enter Tryd.func56, Tryd.ntmps56
  go_wp2
  go_quiet (fail)
  go_wp2
  go_ret
  exact ⟨ret_int (by rw [shr_13, shl_13, u32_or]; rfl), _, rfl⟩
theorem turned_13 (x : UInt32) (w : World) : Calls Tryd.prog 55 #[.int .u32 (x.toNat : Int), .int .i64 13] w fun e w' => e = .returned (.int .u32 ((rot x 13).toNat : Int)) ∧ w' = w := by
  have hx := x.toNat_lt
  have e1 : bits .and .u64 (IntKind.u64.wrap (-13)) 31 = 19 := by decide +kernel
  go_enter Tryd.func55, Tryd.ntmps55
  go_wp2
  go_ret
  exact ⟨ret_int (by rw [shr_13, shl_13, u32_or, UInt32.or_comm]; rfl), rfl⟩
theorem right_17 (x : UInt32) (w : World) : Calls Tryd.prog 56 #[.int .u32 (x.toNat : Int), .int .i64 17] w fun e w' => e = .returned (.int .u32 ((rot x 17).toNat : Int)) ∧ ∃ n, w' = w.drewN n := by
  have hx := x.toNat_lt
  go_enter Tryd.func56, Tryd.ntmps56
  go_wp2
  go_quiet (fail)
  go_wp2
  go_ret
  exact ⟨ret_int (by rw [shr_17, shl_17, u32_or]; rfl), _, rfl⟩
theorem turned_17 (x : UInt32) (w : World) : Calls Tryd.prog 55 #[.int .u32 (x.toNat : Int), .int .i64 17] w fun e w' => e = .returned (.int .u32 ((rot x 17).toNat : Int)) ∧ w' = w := by
  have hx := x.toNat_lt
  have e1 : bits .and .u64 (IntKind.u64.wrap (-17)) 31 = 15 := by decide +kernel
  go_enter Tryd.func55, Tryd.ntmps55
  go_wp2
  go_ret
  exact ⟨ret_int (by rw [shr_17, shl_17, u32_or, UInt32.or_comm]; rfl), rfl⟩
theorem right_18 (x : UInt32) (w : World) : Calls Tryd.prog 56 #[.int .u32 (x.toNat : Int), .int .i64 18] w fun e w' => e = .returned (.int .u32 ((rot x 18).toNat : Int)) ∧ ∃ n, w' = w.drewN n := by
  have hx := x.toNat_lt
  go_enter Tryd.func56, Tryd.ntmps56
  go_wp2
  go_quiet (fail)
  go_wp2
  go_ret
  exact ⟨ret_int (by rw [shr_18, shl_18, u32_or]; rfl), _, rfl⟩
theorem turned_18 (x : UInt32) (w : World) : Calls Tryd.prog 55 #[.int .u32 (x.toNat : Int), .int .i64 18] w fun e w' => e = .returned (.int .u32 ((rot x 18).toNat : Int)) ∧ w' = w := by
  have hx := x.toNat_lt
  have e1 : bits .and .u64 (IntKind.u64.wrap (-18)) 31 = 14 := by decide +kernel
  go_enter Tryd.func55, Tryd.ntmps55
  go_wp2
  go_ret
  exact ⟨ret_int (by rw [shr_18, shl_18, u32_or, UInt32.or_comm]; rfl), rfl⟩
theorem right_19 (x : UInt32) (w : World) : Calls Tryd.prog 56 #[.int .u32 (x.toNat : Int), .int .i64 19] w fun e w' => e = .returned (.int .u32 ((rot x 19).toNat : Int)) ∧ ∃ n, w' = w.drewN n := by
  have hx := x.toNat_lt
  go_enter Tryd.func56, Tryd.ntmps56
  go_wp2
  go_quiet (fail)
  go_wp2
  go_ret
  exact ⟨ret_int (by rw [shr_19, shl_19, u32_or]; rfl), _, rfl⟩
theorem turned_19 (x : UInt32) (w : World) : Calls Tryd.prog 55 #[.int .u32 (x.toNat : Int), .int .i64 19] w fun e w' => e = .returned (.int .u32 ((rot x 19).toNat : Int)) ∧ w' = w := by
  have hx := x.toNat_lt
  have e1 : bits .and .u64 (IntKind.u64.wrap (-19)) 31 = 13 := by decide +kernel
  go_enter Tryd.func55, Tryd.ntmps55
  go_wp2
  go_ret
  exact ⟨ret_int (by rw [shr_19, shl_19, u32_or, UInt32.or_comm]; rfl), rfl⟩
theorem right_22 (x : UInt32) (w : World) : Calls Tryd.prog 56 #[.int .u32 (x.toNat : Int), .int .i64 22] w fun e w' => e = .returned (.int .u32 ((rot x 22).toNat : Int)) ∧ ∃ n, w' = w.drewN n := by
  have hx := x.toNat_lt
  go_enter Tryd.func56, Tryd.ntmps56
  go_wp2
  go_quiet (fail)
  go_wp2
  go_ret
  exact ⟨ret_int (by rw [shr_22, shl_22, u32_or]; rfl), _, rfl⟩
theorem turned_22 (x : UInt32) (w : World) : Calls Tryd.prog 55 #[.int .u32 (x.toNat : Int), .int .i64 22] w fun e w' => e = .returned (.int .u32 ((rot x 22).toNat : Int)) ∧ w' = w := by
  have hx := x.toNat_lt
  have e1 : bits .and .u64 (IntKind.u64.wrap (-22)) 31 = 10 := by decide +kernel
  go_enter Tryd.func55, Tryd.ntmps55
  go_wp2
  go_ret
  exact ⟨ret_int (by rw [shr_22, shl_22, u32_or, UInt32.or_comm]; rfl), rfl⟩
theorem right_25 (x : UInt32) (w : World) : Calls Tryd.prog 56 #[.int .u32 (x.toNat : Int), .int .i64 25] w fun e w' => e = .returned (.int .u32 ((rot x 25).toNat : Int)) ∧ ∃ n, w' = w.drewN n := by
  have hx := x.toNat_lt
  go_enter Tryd.func56, Tryd.ntmps56
  go_wp2
  go_quiet (fail)
  go_wp2
  go_ret
  exact ⟨ret_int (by rw [shr_25, shl_25, u32_or]; rfl), _, rfl⟩
theorem turned_25 (x : UInt32) (w : World) : Calls Tryd.prog 55 #[.int .u32 (x.toNat : Int), .int .i64 25] w fun e w' => e = .returned (.int .u32 ((rot x 25).toNat : Int)) ∧ w' = w := by
  have hx := x.toNat_lt
  have e1 : bits .and .u64 (IntKind.u64.wrap (-25)) 31 = 7 := by decide +kernel
  go_enter Tryd.func55, Tryd.ntmps55
  go_wp2
  go_ret
  exact ⟨ret_int (by rw [shr_25, shl_25, u32_or, UInt32.or_comm]; rfl), rfl⟩
def cnt (n : Int) : UInt32 := UInt32.ofNat n.toNat
def Cnt (n : Int) : Prop := n = 2 ∨ n = 6 ∨ n = 7 ∨ n = 11 ∨ n = 13 ∨ n = 17 ∨ n = 18 ∨ n = 19 ∨ n = 22 ∨ n = 25
theorem right_c (x : UInt32) (n : Int) (w : World) (h : Cnt n) : Calls Tryd.prog 56 #[.int .u32 (x.toNat : Int), .int .i64 n] w fun e w' => e = .returned (.int .u32 ((rot x (cnt n)).toNat : Int)) ∧ ∃ n, w' = w.drewN n := by
  rcases h with rfl | rfl | rfl | rfl | rfl | rfl | rfl | rfl | rfl | rfl
  · exact right_2 x w
  · exact right_6 x w
  · exact right_7 x w
  · exact right_11 x w
  · exact right_13 x w
  · exact right_17 x w
  · exact right_18 x w
  · exact right_19 x w
  · exact right_22 x w
  · exact right_25 x w
theorem turned_c (x : UInt32) (n : Int) (w : World) (h : Cnt n) : Calls Tryd.prog 55 #[.int .u32 (x.toNat : Int), .int .i64 n] w fun e w' => e = .returned (.int .u32 ((rot x (cnt n)).toNat : Int)) ∧ w' = w := by
  rcases h with rfl | rfl | rfl | rfl | rfl | rfl | rfl | rfl | rfl | rfl
  · exact turned_2 x w
  · exact turned_6 x w
  · exact turned_7 x w
  · exact turned_11 x w
  · exact turned_13 x w
  · exact turned_17 x w
  · exact turned_18 x w
  · exact turned_19 x w
  · exact turned_22 x w
  · exact turned_25 x w
theorem cnt_2 : cnt 2 = 2 := by decide +kernel
theorem cnt_6 : cnt 6 = 6 := by decide +kernel
theorem cnt_7 : cnt 7 = 7 := by decide +kernel
theorem cnt_11 : cnt 11 = 11 := by decide +kernel
theorem cnt_13 : cnt 13 = 13 := by decide +kernel
theorem cnt_17 : cnt 17 = 17 := by decide +kernel
theorem cnt_18 : cnt 18 = 18 := by decide +kernel
theorem cnt_19 : cnt 19 = 19 := by decide +kernel
theorem cnt_22 : cnt 22 = 22 := by decide +kernel
theorem cnt_25 : cnt 25 = 25 := by decide +kernel
theorem cnt_nat (n : Nat) : cnt (n : Int) = UInt32.ofNat n := rfl
end Go.Proofs.YtdbdgpaafjdidaaDoor
