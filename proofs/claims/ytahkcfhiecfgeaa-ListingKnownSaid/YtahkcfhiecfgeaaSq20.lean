/- Listing: items compared. -/
import Derived.Test.YtahkcfhiecfgeaaProg
import Derived.Test.YtahkcfhiecfgeaaKv20
import Derived.Laws.StructEq
namespace Go.Proofs.Ytahkcfhiecfgeaa
open Go.RowKit
set_option linter.unusedVariables false
set_option linter.unusedSimpArgs false
theorem held37 : Try.prog.stoodInHeld 37 = false := by kernel_rfl
theorem held39 : Try.prog.stoodInHeld 39 = false := by kernel_rfl
theorem guard37 : Try.prog.eqGuardType Try.prog.depth 37 = false := by kernel_rfl
theorem guard39 : Try.prog.eqGuardType Try.prog.depth 39 = false := by kernel_rfl
theorem struct37 : Try.prog.underlying 37 = some (.struct (Try.prog.fieldsOf 37)) := by kernel_rfl
theorem struct39 : Try.prog.underlying 39 = some (.struct (Try.prog.fieldsOf 39)) := by kernel_rfl
theorem run_eq37 (d : Nat) (x y : Ver) (w : World) : (Op.equalIn (d + 2) 37 (.agg (verC x).toArray) (.agg (verC y).toArray)).run Try.prog w = .ok (decide (x = y)) w := by
  rw [run_equalIn_agg _ (d + 1) _ _ _ struct37 held37]
  have hf := Try.underlying37
  rw [struct37] at hf
  injection hf with hf
  injection hf with hf
  rw [hf]
  obtain ⟨a, t, m, z, e⟩ := x
  obtain ⟨a', t', m', z', e'⟩ := y
  simp [go_sem, verC]
  by_cases h1 : a = a' <;> by_cases h2 : t = t' <;> by_cases h3 : m = m' <;> by_cases h4 : z = z' <;> by_cases h5 : e = e' <;> simp [h1, h2, h3, h4, h5]
theorem run_eq39 (d : Nat) (x y : Itm) (w : World) : (Op.equalIn (d + 3) 39 (.agg (itmC x).toArray) (.agg (itmC y).toArray)).run Try.prog w = .ok (decide (x = y)) w := by
  rw [run_equalIn_agg _ (d + 2) _ _ _ struct39 held39]
  have hf := Try.underlying39
  rw [struct39] at hf
  injection hf with hf
  injection hf with hf
  rw [hf]
  obtain ⟨a, b, v, l⟩ := x
  obtain ⟨a', b', v', l'⟩ := y
  have hv := fun w => run_eq37 d v v' w
  obtain ⟨i, t, m, z, e⟩ := v
  obtain ⟨i', t', m', z', e'⟩ := v'
  simp only [verC] at hv
  simp [go_sem, itmC, hv]
  by_cases h0 : a = a'
  case neg => simp [h0]
  by_cases h1 : b = b'
  case neg => simp [h0, h1]
  by_cases h2 : i = i'
  case neg => simp [h0, h1, h2]
  by_cases h3 : t = t'
  case neg => simp [h0, h1, h2, h3]
  by_cases h4 : m = m'
  case neg => simp [h0, h1, h2, h3, h4]
  by_cases h5 : z = z'
  case neg => simp [h0, h1, h2, h3, h4, h5]
  by_cases h6 : e = e'
  case neg => simp [h0, h1, h2, h3, h4, h5, h6]
  by_cases h7 : l = l'
  case neg => simp [h0, h1, h2, h3, h4, h5, h6, h7]
  simp [h0, h1, h2, h3, h4, h5, h6, h7]
theorem run_neq39 (x y : Itm) (w : World) : (binOp .neq 39 (.agg (itmC x).toArray) (.agg (itmC y).toArray)).run Try.prog w = .ok (.bool (!decide (x = y))) w := by
  rw [run_neq_struct, run_eq39 9997 x y w]
  rfl
theorem run_neq37 (x y : Ver) (w : World) : (binOp .neq 37 (.agg (verC x).toArray) (.agg (verC y).toArray)).run Try.prog w = .ok (.bool (!decide (x = y))) w := by
  rw [run_neq_struct, run_eq37 9998 x y w]
  rfl
theorem run_eql37 (x y : Ver) (w : World) : (binOp .eql 37 (.agg (verC x).toArray) (.agg (verC y).toArray)).run Try.prog w = .ok (.bool (decide (x = y))) w := by
  rw [run_eql_struct, run_eq37 9998 x y w]
  rfl
end Go.Proofs.Ytahkcfhiecfgeaa
