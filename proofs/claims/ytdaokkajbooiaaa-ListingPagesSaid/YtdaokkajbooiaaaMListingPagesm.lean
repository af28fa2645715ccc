/- Texts of this proof, put together: Sq20, Sp20, Fo20, Ke20. -/
import Derived.Test.YtdaokkajbooiaaaProg
import Derived.Test.YtdaokkajbooiaaaMListingPagesl
import Derived.Laws.StructEq
import Derived.Deep.QuietTactic
import Derived.BigQuiet
section
/- Listing: items compared. -/
namespace Go.Proofs.Ytdaokkajbooiaaa
open Go.RowKit
set_option linter.unusedVariables false
set_option linter.unusedSimpArgs false
theorem held37 : Try.prog.stoodInHeld 37 = false := by kernel_rfl
theorem held39 : Try.prog.stoodInHeld 39 = false := by kernel_rfl
theorem guard39 : Try.prog.eqGuardType Try.prog.depth 39 = false := by kernel_rfl
theorem struct37 : Try.prog.underlying 37 = some (.struct (Try.prog.fieldsOf 37)) := by kernel_rfl
theorem struct39 : Try.prog.underlying 39 = some (.struct (Try.prog.fieldsOf 39)) := by kernel_rfl
set_option maxRecDepth 100000 in
theorem run_eq37 (d : Nat) (x y : Ver) (w : World) : (Op.equalIn (d + 2) 37 (.agg (verC x).toArray) (.agg (verC y).toArray)).run Try.prog w = .ok (decide (x = y)) w := by
  rw [run_equalIn_agg _ (d + 1) _ _ _ struct37 held37]
  have hf := Try.underlying37
  rw [struct37] at hf
  injection hf with hf
  injection hf with hf
  rw [hf]
  obtain ⟨a, t, m, z, e⟩ := x
  obtain ⟨a', t', m', z', e'⟩ := y
  simp [go_sem, verC]
  by_cases h1 : a = a' <;> by_cases h2 : t = t' <;> by_cases h3 : m = m' <;> by_cases h4 : z = z' <;> by_cases h5 : e = e' <;> simp [h1, h2, h3, h4, h5]
set_option maxRecDepth 100000 in
theorem run_eq39 (d : Nat) (x y : Itm) (w : World) : (Op.equalIn (d + 3) 39 (.agg (itmC x).toArray) (.agg (itmC y).toArray)).run Try.prog w = .ok (decide (x = y)) w := by
  rw [run_equalIn_agg _ (d + 2) _ _ _ struct39 held39]
  have hf := Try.underlying39
  rw [struct39] at hf
  injection hf with hf
  injection hf with hf
  rw [hf]
  obtain ⟨a, b, v, l⟩ := x
  obtain ⟨a', b', v', l'⟩ := y
  have hv := fun w => run_eq37 d v v' w
  obtain ⟨i, t, m, z, e⟩ := v
  obtain ⟨i', t', m', z', e'⟩ := v'
  simp only [verC] at hv
  simp [go_sem, itmC, hv]
  by_cases h0 : a = a'
  case neg => simp [h0]
  by_cases h1 : b = b'
  case neg => simp [h0, h1]
  by_cases h2 : i = i'
  case neg => simp [h0, h1, h2]
  by_cases h3 : t = t'
  case neg => simp [h0, h1, h2, h3]
  by_cases h4 : m = m'
  case neg => simp [h0, h1, h2, h3, h4]
  by_cases h5 : z = z'
  case neg => simp [h0, h1, h2, h3, h4, h5]
  by_cases h6 : e = e'
  case neg => simp [h0, h1, h2, h3, h4, h5, h6]
  by_cases h7 : l = l'
  case neg => simp [h0, h1, h2, h3, h4, h5, h6, h7]
  simp [h0, h1, h2, h3, h4, h5, h6, h7]
theorem run_neq39 (x y : Itm) (w : World) : (binOp .neq 39 (.agg (itmC x).toArray) (.agg (itmC y).toArray)).run Try.prog w = .ok (.bool (!decide (x = y))) w := by
  rw [run_neq_struct, run_eq39 9997 x y w]
  rfl
end Go.Proofs.Ytdaokkajbooiaaa
end
section
/- Listing: the same page? -/
namespace Go.Proofs.Ytdaokkajbooiaaa
open Go.RowKit
set_option linter.unusedVariables false
set_option linter.unusedSimpArgs false
deriving instance DecidableEq for Pg
/-- A page that can be read. -/
def PgSrc (W : World) (pv : Value) (g : Pg) : Prop := ∃ sl, pv = .agg #[sl, .bool g.more, .string (BA g.next), .string (BA g.version)] ∧ SrcR W sl 8 (g.items.map itmC)
theorem PageAt.src {n : Nat} {W : World} {pv : Value} {g : Pg} (h : PageAt n W pv g) : PgSrc W pv g := by
  obtain ⟨sl, h1, h2⟩ := h
  exact ⟨sl, h1, own_src h2⟩
theorem PgSrc.block {W W' : World} {pv : Value} {g : Pg} (h : PgSrc W pv g) (hb : Below W.heap.size W W') : PgSrc W' pv g := by
  obtain ⟨sl, h1, h2⟩ := h
  exact ⟨sl, h1, h2.block hb⟩
set_option maxRecDepth 10000 in
set_option maxHeartbeats 2000000 in
theorem samePage_any (a b : Value) (g h : Pg) (w : World) (ha : PgSrc w a g) (hb : PgSrc w b h) (hg : g.items.length ≤ 1000000) (hh : h.items.length ≤ 1000000) :
    Calls Try.prog 16 #[a, b] w fun e w' => e = .returned (.bool (decide (g = h))) ∧ Below w.heap.size w w' := by
  obtain ⟨gi, gm, gn, gv⟩ := g
  obtain ⟨hi, hm, hn, hv⟩ := h
  obtain ⟨sa, rfl, hsa⟩ := ha
  obtain ⟨sb, rfl, hsb⟩ := hb
  obtain ⟨A1, c1, rfl⟩ := hsa.form
  obtain ⟨A2, c2, rfl⟩ := hsb.form
  simp only [List.length_map] at hsa hsb ⊢
  have HA := Lib.hid hsa
  have HB := Lib.hid hsb
  clear hsa hsb
  simp only at hg hh
  have hb2 : Below w.heap.size w ((w.alloc (.cells #[.slice A1 gi.length c1, .bool gm, .string (BA gn), .string (BA gv)] 28)).alloc (.cells #[.slice A2 hi.length c2, .bool hm, .string (BA hn), .string (BA hv)] 28)) := ((Below.refl _ w).alloc (Nat.le_refl _) _).alloc (by simp) _
  go_enter Try.func16, Try.ntmps16
  obtain ⟨n1, hn1⟩ : ∃ n1, gi.length = n1 := ⟨_, rfl⟩
  obtain ⟨n2, hn2⟩ : ∃ n2, hi.length = n2 := ⟨_, rfl⟩
  rw [hn1] at HA hb2 hg ⊢
  rw [hn2] at HB hb2 hh ⊢
  have HN1 := Lib.hid hn1
  have HN2 := Lib.hid hn2
  clear hn1 hn2
  by_cases hl : n1 = n2
  · subst hl
    by_cases e1 : gm = hm
    · subst e1
      by_cases e2 : gn = hn
      · subst e2
        by_cases e3 : gv = hv
        · have HP := Lib.hid (show decide ((⟨gi, gm, gn, gv⟩ : Pg) = ⟨hi, gm, gn, hv⟩) = decide (gi = hi) by simp [e3])
          have hq : (gv == hv) = true := by simp [e3]
          subst e3
          rw [HP.out]
          obtain ⟨R, hR⟩ : ∃ R, decide (gi = hi) = R := ⟨_, rfl⟩
          rw [hR]
          have HR0 := Lib.hid hR
          clear hR HP
          have r1 := (heap_alloc_old (w.alloc (.cells #[.slice A1 n1 c1, .bool gm, .string (BA gn), .string (BA gv)] 28)) (.cells #[.slice A2 n1 c2, .bool gm, .string (BA gn), .string (BA gv)] 28) w.heap.size (by simp)).trans (heap_alloc_new w _)
          have r2 := heap_alloc_new (w.alloc (.cells #[.slice A1 n1 c1, .bool gm, .string (BA gn), .string (BA gv)] 28)) (.cells #[.slice A2 n1 c2, .bool gm, .string (BA gn), .string (BA gv)] 28)
          rw [World.size_alloc] at r2
          go_wp2_with fail
          obtain ⟨w2, hw2⟩ : ∃ w2, (w.alloc (.cells #[.slice A1 n1 c1, .bool gm, .string (BA gn), .string (BA gv)] 28)).alloc (.cells #[.slice A2 n1 c2, .bool gm, .string (BA gn), .string (BA gv)] 28) = w2 := ⟨_, rfl⟩
          rw [hw2] at r1 r2 hb2 ⊢
          clear hw2
          go_loopw [5] (fun i wr => ∃ k : Nat, k ≤ n1 ∧ i = .int .i64 k ∧ Below w2.heap.size w2 wr ∧ Hid (R = decide (gi.drop k = hi.drop k))) (fun i _ => n1 - (intOf i).toNat)
          case atStart => exact ⟨0, Nat.zero_le _, rfl, Below.refl _ _, Lib.hid (by rw [← HR0.out]; simp)⟩
          case round =>
            obtain ⟨k, hk, rfl, hbw, H⟩ := hrel
            have hbx := hb2.trans (hbw.mono hb2.size)
            have c1r : wr.cell? ⟨w.heap.size, 0, none⟩ = some (.slice A1 n1 c1) := by rw [cell_of_row _ _ 0 _ _ (0, 0) ((hbw.block _ (Array.getElem?_eq_some_iff.1 r1).1).trans r1)]; rfl
            have c2r : wr.cell? ⟨w.heap.size + 1, 0, none⟩ = some (.slice A2 n1 c2) := by rw [cell_of_row _ _ 0 _ _ (0, 0) ((hbw.block _ (Array.getElem?_eq_some_iff.1 r2).1).trans r2)]; rfl
            by_cases hlt : k < n1
            · obtain ⟨⟨nm, com, ⟨vid, vt, vm, vz, vet⟩, lat⟩, hx, hxd⟩ := next_elem gi k (by rw [HN1.out]; exact hlt)
              obtain ⟨⟨nm', com', ⟨vid', vt', vm', vz', vet'⟩, lat'⟩, hy, hyd⟩ := next_elem hi k (by rw [HN2.out]; exact hlt)
              obtain ⟨b1, o1, rfl, _, hc1⟩ := (HA.out.block hbx).at (i := k) (row := itmC ⟨nm, com, ⟨vid, vt, vm, vz, vet⟩, lat⟩) (by simp [hx])
              obtain ⟨b2, o2, rfl, _, hc2⟩ := (HB.out.block hbx).at (i := k) (row := itmC ⟨nm', com', ⟨vid', vt', vm', vz', vet'⟩, lat'⟩) (by simp [hy])
              have d0 := hc1 0 _ rfl
              have d1 := hc1 1 _ rfl
              have d2 := hc1 2 _ rfl
              have d3 := hc1 3 _ rfl
              have d4 := hc1 4 _ rfl
              have d5 := hc1 5 _ rfl
              have d6 := hc1 6 _ rfl
              have d7 := hc1 7 _ rfl
              have f0 := hc2 0 _ rfl
              have f1 := hc2 1 _ rfl
              have f2 := hc2 2 _ rfl
              have f3 := hc2 3 _ rfl
              have f4 := hc2 4 _ rfl
              have f5 := hc2 5 _ rfl
              have f6 := hc2 6 _ rfl
              have f7 := hc2 7 _ rfl
              simp only [Nat.add_zero] at d0 f0
              have hstep := H.out
              rw [hxd, hyd] at hstep
              have hk2 : (0 : Int) ≤ (k : Int) ∧ (k : Int) < (n1 : Int) := by omega
              clear hc1 hc2 hx hy hxd hyd H
              have hne := fun w => run_neq39 ⟨nm, com, ⟨vid, vt, vm, vz, vet⟩, lat⟩ ⟨nm', com', ⟨vid', vt', vm', vz', vet'⟩, lat'⟩ w
              simp only [itmC] at hne
              have hg39 := guard39
              by_cases hxy : (⟨nm, com, ⟨vid, vt, vm, vz, vet⟩, lat⟩ : Itm) = ⟨nm', com', ⟨vid', vt', vm', vz', vet'⟩, lat'⟩
              · have HS := Lib.hid (show R = decide (gi.drop (k + 1) = hi.drop (k + 1)) by rw [hstep]; simp [hxy])
                rw [decide_eq_true hxy] at hne
                clear hstep hxy
                go_wp2_with fail
                go_quiet (fail)
                clear d0 d1 d2 d3 d4 d5 d6 d7 f0 f1 f2 f3 f4 f5 f6 f7 hne c1r c2r hg39
                go_wp2
                go_roundw
                case rel => exact ⟨k + 1, by omega, by go_num, below_drewN hbw _, HS⟩
                case measure => simp [intOf]; omega
              · have HS := Lib.hid (show R = false by rw [hstep]; simp only [List.cons.injEq, hxy, false_and, decide_false])
                rw [decide_eq_false hxy] at hne
                clear hstep hxy
                go_wp2_with fail
                go_quiet (fail)
                clear d0 d1 d2 d3 d4 d5 d6 d7 f0 f1 f2 f3 f4 f5 f6 f7 hne c1r c2r hg39
                go_wp2
                go_ret
                exact ⟨by rw [HS.out]; rfl, below_drewN hbx _⟩
            · obtain rfl : k = n1 := by omega
              have HV := Lib.hid (show R = true by rw [H.out, List.drop_of_length_le (by rw [HN1.out]; exact Nat.le_refl _), List.drop_of_length_le (by rw [HN2.out]; exact Nat.le_refl _)]; simp)
              clear H
              go_wp2
              go_ret
              exact ⟨by rw [HV.out]; rfl, hbx⟩
        · have hq : (gv == hv) = false := by simp [e3]
          have HR := Lib.hid (show decide ((⟨gi, gm, gn, gv⟩ : Pg) = ⟨hi, gm, gn, hv⟩) = false by simp [e3])
          go_wp2_with fail
          go_ret
          exact ⟨by rw [HR.out]; rfl, hb2⟩
      · have HR := Lib.hid (show decide ((⟨gi, gm, gn, gv⟩ : Pg) = ⟨hi, gm, hn, hv⟩) = false by simp [e2])
        go_wp2_with fail
        go_ret
        exact ⟨by rw [HR.out]; rfl, hb2⟩
    · have HR := Lib.hid (show decide ((⟨gi, gm, gn, gv⟩ : Pg) = ⟨hi, hm, hn, hv⟩) = false by simp [e1])
      go_wp2_with fail
      go_ret
      exact ⟨by rw [HR.out]; rfl, hb2⟩
  · have hl2 : ((n1 : Int) == (n2 : Int)) = false := by simp; omega
    have hl3 : ¬ (n1 : Int) = (n2 : Int) := by omega
    have HR := Lib.hid (show decide ((⟨gi, gm, gn, gv⟩ : Pg) = ⟨hi, hm, hn, hv⟩) = false by simp; intro e; exact absurd (by rw [← HN1.out, ← HN2.out, e]) hl)
    go_wp2_with fail
    go_ret
    exact ⟨by rw [HR.out]; rfl, hb2⟩
end Go.Proofs.Ytdaokkajbooiaaa
end
section
/- Listing: the chapter's entries. -/
namespace Go.Proofs.Ytdaokkajbooiaaa
open Go.RowKit
set_option linter.unusedVariables false
set_option linter.unusedSimpArgs false
theorem flatten_at (sz : Nat) : ∀ (rows : List (List Value)) (i j : Nat) (row : List Value) (x : Value), (∀ r ∈ rows, r.length = sz) → rows[i]? = some row → row[j]? = some x → rows.flatten[i * sz + j]? = some x
  | [], i, j, row, x, _, h, _ => by simp at h
  | r :: rs, 0, j, row, x, hl, h, hx => by
    simp only [List.getElem?_cons_zero, Option.some.injEq] at h
    subst h
    rw [List.flatten_cons, List.getElem?_append_left (by have := (List.getElem?_eq_some_iff.1 hx).1; omega)]
    simpa using hx
  | r :: rs, i + 1, j, row, x, hl, h, hx => by
    have h1 : r.length = sz := hl r (List.mem_cons_self ..)
    have hm : (i + 1) * sz = i * sz + sz := by rw [Nat.add_mul, Nat.one_mul]
    rw [List.flatten_cons, List.getElem?_append_right (by omega), h1, show (i + 1) * sz + j - sz = i * sz + j by omega]
    exact flatten_at sz rs i j row x (fun q hq => hl q (List.mem_cons_of_mem _ hq)) (by simpa using h) hx
theorem srcR_row {W : World} {b sz : Nat} {rows : List (List Value)} {t : TypeId} (h : W.heap[b]? = some (.cells rows.flatten.toArray t (0, 0))) (hl : ∀ r ∈ rows, r.length = sz) : SrcR W (.slice (some ⟨b, 0, none⟩) rows.length rows.length) sz rows := by
  refine .inr ⟨b, 0, rows.length, rfl, Nat.le_refl _, fun i row hi j x hj => ?_⟩
  rw [Nat.zero_add, cell_of_row _ _ _ _ _ (0, 0) h]
  simpa using flatten_at sz rows i j row x hl hi hj
theorem SrcR.alloc {W : World} {v : Value} {sz : Nat} {rows : List (List Value)} (h : SrcR W v sz rows) (o : Obj) : SrcR (W.alloc o) v sz rows := h.block ((Below.refl _ W).alloc (Nat.le_refl _) o)
theorem bt {A B C : World} (h : Below A.heap.size A B) (k : Below B.heap.size B C) : Below A.heap.size A C := h.trans (k.mono h.size)
theorem ba (A : World) (o : Obj) : Below A.heap.size A (A.alloc o) := (Below.refl _ A).alloc (Nat.le_refl _) o
def ver (id : Bs) : Ver := ⟨id, 0, false, 0, []⟩
theorem infoV : (Try.prog.info? 37).map (·.size) = some 5 := by kernel_rfl
set_option maxRecDepth 10000 in
set_option maxHeartbeats 1000000 in
theorem v_any (id : Bs) (w : World) : Calls Try.prog 22 #[.string (BA id)] w fun e w' => e = .returned (.agg #[.string (BA id), .int .i64 0, .bool false, .int .i64 0, .string ⟨#[]⟩]) ∧ Below w.heap.size w w' := by
  have hrow := heap_alloc_new w (.cells #[.string ⟨#[]⟩, .int .i64 0, .bool false, .int .i64 0, .string ⟨#[]⟩] 37)
  have hb : Below w.heap.size w (w.alloc (.cells #[.string ⟨#[]⟩, .int .i64 0, .bool false, .int .i64 0, .string ⟨#[]⟩] 37)) := (Below.refl _ w).alloc (Nat.le_refl _) _
  go_enter Try.func22, Try.ntmps22
  go_wp2_with (refine wpList_store_row rfl 37 _ _ rfl w.heap.size #[.string (BA id), .int .i64 0, .bool false, .int .i64 0, .string ⟨#[]⟩] rfl rfl 37 _ hrow infoV rfl (by simp [Value.oneCell']) ?_)
  exact bodyPost_ret (v := .agg #[.string (BA id), .int .i64 0, .bool false, .int .i64 0, .string ⟨#[]⟩]) (results_cell_row (show Try.f22.results = #[.cell 2 37] from by kernel_rfl) _ _ w.heap.size 37 #[.string (BA id), .int .i64 0, .bool false, .int .i64 0, .string ⟨#[]⟩] (0, 0) _ rfl (setRow_heap _ _ _ _ _ _ hrow) Try.underlying37 rfl infoV) rfl ⟨rfl, below_setRow hb (Nat.le_refl _) _⟩
def fourE : List Ent := [⟨([97] : List UInt8), [ver ([118, 49] : List UInt8)]⟩, ⟨([98, 47, 99] : List UInt8), [ver ([118, 50] : List UInt8)]⟩, ⟨([98, 47, 100] : List UInt8), [ver ([118, 51] : List UInt8), ver ([118, 52] : List UInt8)]⟩, ⟨([101] : List UInt8), [⟨([109, 53] : List UInt8), 0, true, 0, []⟩, ver ([118, 54] : List UInt8)]⟩]
set_option maxRecDepth 10000 in
set_option maxHeartbeats 1000000 in
theorem four_any (w : World) : Calls Try.prog 23 #[] w fun e w' => ∃ v, e = .returned v ∧ EntsAt w' v fourE ∧ Below w.heap.size w w' := by
  have h1 := fun W => v_any ([118, 49] : List UInt8) W
  have h2 := fun W => v_any ([118, 50] : List UInt8) W
  have h3 := fun W => v_any ([118, 51] : List UInt8) W
  have h4 := fun W => v_any ([118, 52] : List UInt8) W
  have h6 := fun W => v_any ([118, 54] : List UInt8) W
  go_enter Try.func23, Try.ntmps23
  go_wp2_with first | (go_at_call 22; refine (h1 _).mono ?_; clear h1; rintro e w1 ⟨rfl, b1⟩) | (go_at_call 22; refine (h2 _).mono ?_; clear h2; rintro e w2 ⟨rfl, b2⟩) | (go_at_call 22; refine (h3 _).mono ?_; clear h3; rintro e w3 ⟨rfl, b3⟩) | (go_at_call 22; refine (h4 _).mono ?_; clear h4; rintro e w4 ⟨rfl, b4⟩) | (go_at_call 22; refine (h6 _).mono ?_; clear h6; rintro e w6 ⟨rfl, b6⟩)
  have B6 := bt (ba w6 (.cells #[.string ⟨#[109, 53]⟩, .int .i64 0, .bool true, .int .i64 0, .string ⟨#[]⟩, .string (BA [118, 54]), .int .i64 0, .bool false, .int .i64 0, .string ⟨#[]⟩] 37)) (ba _ (.cells #[.string ⟨#[97]⟩, .slice (some ⟨w1.heap.size, 0, none⟩) 1 1, .string ⟨#[98, 47, 99]⟩, .slice (some ⟨w2.heap.size, 0, none⟩) 1 1, .string ⟨#[98, 47, 100]⟩, .slice (some ⟨w4.heap.size, 0, none⟩) 2 2, .string ⟨#[101]⟩, .slice (some ⟨w6.heap.size, 0, none⟩) 2 2] 47))
  have B4 := bt b6 B6
  have B3 := bt b4 (bt (ba w4 _) B4)
  have B2 := bt b3 B3
  have B1 := bt b2 (bt (ba w2 _) B2)
  have s1 : SrcR _ (.slice (some ⟨w1.heap.size, 0, none⟩) 1 1) 5 [verC (ver ([118, 49] : List UInt8))] := (srcR_row (rows := [verC (ver ([118, 49] : List UInt8))]) (heap_alloc_new w1 _) (by simp [verC])).block B1
  have s2 : SrcR _ (.slice (some ⟨w2.heap.size, 0, none⟩) 1 1) 5 [verC (ver ([118, 50] : List UInt8))] := (srcR_row (rows := [verC (ver ([118, 50] : List UInt8))]) (heap_alloc_new w2 _) (by simp [verC])).block B2
  have s4 : SrcR _ (.slice (some ⟨w4.heap.size, 0, none⟩) 2 2) 5 [verC (ver ([118, 51] : List UInt8)), verC (ver ([118, 52] : List UInt8))] := (srcR_row (rows := [verC (ver ([118, 51] : List UInt8)), verC (ver ([118, 52] : List UInt8))]) (heap_alloc_new w4 _) (by simp [verC])).block B4
  have s6 : SrcR _ (.slice (some ⟨w6.heap.size, 0, none⟩) 2 2) 5 [verC ⟨([109, 53] : List UInt8), 0, true, 0, []⟩, verC (ver ([118, 54] : List UInt8))] := (srcR_row (t := 37) (rows := [verC ⟨([109, 53] : List UInt8), 0, true, 0, []⟩, verC (ver ([118, 54] : List UInt8))]) (heap_alloc_new w6 _) (by simp [verC])).block (ba _ (.cells #[.string ⟨#[97]⟩, .slice (some ⟨w1.heap.size, 0, none⟩) 1 1, .string ⟨#[98, 47, 99]⟩, .slice (some ⟨w2.heap.size, 0, none⟩) 1 1, .string ⟨#[98, 47, 100]⟩, .slice (some ⟨w4.heap.size, 0, none⟩) 2 2, .string ⟨#[101]⟩, .slice (some ⟨w6.heap.size, 0, none⟩) 2 2] 47))
  go_ret
  refine ⟨_, rfl, ⟨[.slice (some ⟨w1.heap.size, 0, none⟩) 1 1, .slice (some ⟨w2.heap.size, 0, none⟩) 1 1, .slice (some ⟨w4.heap.size, 0, none⟩) 2 2, .slice (some ⟨w6.heap.size, 0, none⟩) 2 2], rfl, ?_, fun i e x he hx => ?_⟩, bt b1 (bt (ba w1 _) B1)⟩
  · exact srcR_row (rows := [[.string (BA ([97] : List UInt8)), .slice (some ⟨w1.heap.size, 0, none⟩) 1 1], [.string (BA ([98, 47, 99] : List UInt8)), .slice (some ⟨w2.heap.size, 0, none⟩) 1 1], [.string (BA ([98, 47, 100] : List UInt8)), .slice (some ⟨w4.heap.size, 0, none⟩) 2 2], [.string (BA ([101] : List UInt8)), .slice (some ⟨w6.heap.size, 0, none⟩) 2 2]]) (by have := heap_alloc_new (w6.alloc (.cells #[.string ⟨#[109, 53]⟩, .int .i64 0, .bool true, .int .i64 0, .string ⟨#[]⟩, .string (BA [118, 54]), .int .i64 0, .bool false, .int .i64 0, .string ⟨#[]⟩] 37)) (.cells #[.string ⟨#[97]⟩, .slice (some ⟨w1.heap.size, 0, none⟩) 1 1, .string ⟨#[98, 47, 99]⟩, .slice (some ⟨w2.heap.size, 0, none⟩) 1 1, .string ⟨#[98, 47, 100]⟩, .slice (some ⟨w4.heap.size, 0, none⟩) 2 2, .string ⟨#[101]⟩, .slice (some ⟨w6.heap.size, 0, none⟩) 2 2] 47); rw [World.size_alloc] at this; exact this) (by simp)
  · rcases i with _ | _ | _ | _ | i
    · simp [fourE] at he hx; subst he hx; exact s1
    · simp [fourE] at he hx; subst he hx; exact s2
    · simp [fourE] at he hx; subst he hx; exact s4
    · simp [fourE] at he hx; subst he hx; exact s6
    · simp [fourE] at he
end Go.Proofs.Ytdaokkajbooiaaa
end
section
/- Listing: keys and awake. -/
namespace Go.Proofs.Ytdaokkajbooiaaa
open Go.RowKit
set_option linter.unusedVariables false
set_option linter.unusedSimpArgs false
theorem runP_len (after version : Bs) (most : Nat) : ∀ (l : List Itm) (beh : Bool) (acc : List Itm), acc.length ≤ most → (runP after version most beh acc l).1.length ≤ most
  | [], beh, acc, h => by unfold runP; exact h
  | x :: r, beh, acc, h => by
    unfold runP
    split
    · split
      · exact h
      · exact runP_len after version most r _ _ (by simp; omega)
    · exact runP_len after version most r _ _ h
theorem pageV_len (vers : Bool) (l : List Ent) (p d after version : Bs) (most : Int) : (pageV vers l p d after version most).1.items.length ≤ 1000 := by
  unfold pageV
  split
  · simp [pg0]
  split
  · simp [pg0]
  split
  · simp [pg0]
  · have h := runP_len after version most.toNat (listP p d vers none l) false [] (by simp)
    simp only
    unfold mkPg
    split <;> (simp only; omega)
theorem PgSrc.alloc {W : World} {pv : Value} {g : Pg} (h : PgSrc W pv g) (o : Obj) : PgSrc (W.alloc o) pv g := h.block (ba W o)
set_option maxRecDepth 10000 in
set_option maxHeartbeats 1000000 in
theorem keysK_any (p d after : ByteArray) (most : Int) (want : Value) (g : Pg) (w : World) (hw : PgSrc w want g) (hgl : g.items.length ≤ 1000000) (hMax : ∃ m, w.cell? ⟨0, 0, none⟩ = some (.int .i64 m)) (hps : p.size ≤ 1000000) (hds : d.size ≤ 1000000) (has : after.size ≤ 1000000) :
    Calls Try.prog 21 #[.string p, .string d, .string after, .int .i64 most, want] w fun e w' => e = .returned (.bool (decide (pageV false fourE p.data.toList d.data.toList after.data.toList [] most = (g, 0)))) ∧ Below w.heap.size w w' := by
  have hw0 := hw
  obtain ⟨sl, rfl, hsl⟩ := hw
  obtain ⟨As, cs, rfl⟩ := hsl.form
  simp only [List.length_map] at hw0 ⊢
  clear hsl
  have HW := Lib.hid hw0
  clear hw0
  obtain ⟨m0, hm0⟩ := hMax
  have hlen := pageV_len false fourE p.data.toList d.data.toList after.data.toList [] most
  have hKC := fun W v (hE : EntsAt W v fourE) (hm : W.cell? ⟨0, 0, none⟩ = some (.int .i64 m0)) => keys_any p d after most fourE v W hE (by decide) (by decide) ⟨m0, hm⟩ hps hds has
  obtain ⟨R, hR⟩ : ∃ R, pageV false fourE p.data.toList d.data.toList after.data.toList [] most = R := ⟨_, rfl⟩
  rw [hR] at hlen
  simp only [hR] at hKC
  rw [hR]
  clear hR
  obtain ⟨⟨items, more, next, vr⟩, en⟩ := R
  simp only at hlen hKC
  have HM := Lib.hid (cell_lt hm0)
  have HM0 := Lib.hid hm0
  clear hm0
  obtain ⟨gi, gm, gn, gv⟩ := g
  simp only at hgl ⊢
  have hF := fun W => four_any W
  have bW := ba w (.cells #[.slice As gi.length cs, .bool gm, .string (BA gn), .string (BA gv)] 28)
  go_enter Try.func21, Try.ntmps21
  by_cases hen : en = 0
  · subst hen
    go_wp2_with first | (go_at_call 23; refine (hF _).mono ?_; clear hF; rintro e w1 ⟨v1, rfl, hE1, hb1⟩; obtain ⟨A0, c0, rfl⟩ := hE1.form) | (go_at_call 12; refine (hKC _ _ hE1 (((bW.trans (hb1.mono bW.size)).cell (p := ⟨0, 0, none⟩) HM.out).trans HM0.out)).mono ?_; clear hKC; rintro e w2 ⟨pv, rfl, hp2, hb2⟩; obtain ⟨sl2, rfl, ho2⟩ := hp2; obtain ⟨A2, c2, rfl⟩ := own_form ho2; have bX := bW.trans ((bt hb1 hb2).mono bW.size); have rB : w2.heap[w.heap.size]? = some (.cells #[.slice As gi.length cs, .bool gm, .string (BA gn), .string (BA gv)] 28 (0, 0)) := ((bt hb1 hb2).block _ (by simp)).trans (heap_alloc_new w _); have q0 : ∀ o, (w2.alloc o).cell? ⟨w.heap.size, 0, none⟩ = some (.slice As gi.length cs) := (fun o => by rw [cell_of_row _ _ 0 _ _ (0, 0) ((heap_alloc_old w2 o _ (Array.getElem?_eq_some_iff.1 rB).1).trans rB)]; rfl); have q1 : ∀ o, (w2.alloc o).cell? ⟨w.heap.size, 1, none⟩ = some (.bool gm) := (fun o => by rw [cell_of_row _ _ 1 _ _ (0, 0) ((heap_alloc_old w2 o _ (Array.getElem?_eq_some_iff.1 rB).1).trans rB)]; rfl); have q2 : ∀ o, (w2.alloc o).cell? ⟨w.heap.size, 2, none⟩ = some (.string (BA gn)) := (fun o => by rw [cell_of_row _ _ 2 _ _ (0, 0) ((heap_alloc_old w2 o _ (Array.getElem?_eq_some_iff.1 rB).1).trans rB)]; rfl); have q3 : ∀ o, (w2.alloc o).cell? ⟨w.heap.size, 3, none⟩ = some (.string (BA gv)) := (fun o => by rw [cell_of_row _ _ 3 _ _ (0, 0) ((heap_alloc_old w2 o _ (Array.getElem?_eq_some_iff.1 rB).1).trans rB)]; rfl)) | (go_at_call 16; refine (samePage_any _ _ ⟨items, more, next, vr⟩ ⟨gi, gm, gn, gv⟩ _ ((PageAt.src ⟨_, rfl, ho2⟩).alloc _) ((HW.out.block bX).alloc _) (by simp only; omega) hgl).mono ?_; rintro e w3 ⟨rfl, hb3⟩)
    go_ret
    exact ⟨by simp, bX.trans ((bt (ba w2 _) hb3).mono bX.size)⟩
  · have hq : (en == 0) = false := by simp [hen]
    go_wp2_with first | (go_at_call 23; refine (hF _).mono ?_; clear hF; rintro e w1 ⟨v1, rfl, hE1, hb1⟩; obtain ⟨A0, c0, rfl⟩ := hE1.form) | (go_at_call 12; refine (hKC _ _ hE1 (((bW.trans (hb1.mono bW.size)).cell (p := ⟨0, 0, none⟩) HM.out).trans HM0.out)).mono ?_; clear hKC; rintro e w2 ⟨pv, rfl, hp2, hb2⟩; obtain ⟨sl2, rfl, ho2⟩ := hp2; obtain ⟨A2, c2, rfl⟩ := own_form ho2)
    go_ret
    exact ⟨by simp [hen], (bW.trans ((bt hb1 (bt hb2 (ba w2 _))).mono bW.size))⟩
def itm (nm id : Bs) (latest : Bool) : Itm := ⟨nm, false, ver id, latest⟩
def pgA : Pg := ⟨[itm ([97] : List UInt8) ([118, 49] : List UInt8) false], true, ([97] : List UInt8), []⟩
def pgB : Pg := ⟨[comItm ([98, 47] : List UInt8)], false, [], []⟩
theorem known_A : pageV false fourE [] ([47] : List UInt8) [] [] 1 = (pgA, 0) := by decide +kernel
theorem known_B : pageV false fourE [] ([47] : List UInt8) ([97] : List UInt8) [] 9 = (pgB, 0) := by decide +kernel
/-- 'keys' at a page that is just what is told. -/
theorem keysK_true (p d after : ByteArray) (most : Int) (want : Value) (g : Pg) (w : World) (hw : PgSrc w want g) (hgl : g.items.length ≤ 1000000) {m0 : Int} (hm : w.cell? ⟨0, 0, none⟩ = some (.int .i64 m0)) (hps : p.size ≤ 1000000) (hds : d.size ≤ 1000000) (has : after.size ≤ 1000000) (hK : pageV false fourE p.data.toList d.data.toList after.data.toList [] most = (g, 0)) :
    Calls Try.prog 21 #[.string p, .string d, .string after, .int .i64 most, want] w fun e w' => e = .returned (.bool true) ∧ Below w.heap.size w w' := by
  have h := keysK_any p d after most want g w hw hgl ⟨m0, hm⟩ hps hds has
  rw [hK] at h
  simpa using h
set_option maxRecDepth 10000 in
set_option maxHeartbeats 1000000 in
theorem awake_any (w : World) (hMax : ∃ m, w.cell? ⟨0, 0, none⟩ = some (.int .i64 m)) : Calls Try.prog 20 #[] w fun e w' => e = .returned (.bool true) ∧ Below w.heap.size w w' := by
  obtain ⟨m0, hm0⟩ := hMax
  have HM := Lib.hid (cell_lt hm0)
  have HM0 := Lib.hid hm0
  clear hm0
  have hV := fun W => v_any ([118, 49] : List UInt8) W
  have hK1 := fun W want (hw : PgSrc W want pgA) (hm : W.cell? ⟨0, 0, none⟩ = some (.int .i64 m0)) => keysK_true ⟨#[]⟩ (BA ([47] : List UInt8)) ⟨#[]⟩ 1 want pgA W hw (by decide) hm (by decide) (by decide) (by decide) known_A
  have hK2 := fun W want (hw : PgSrc W want pgB) (hm : W.cell? ⟨0, 0, none⟩ = some (.int .i64 m0)) => keysK_true ⟨#[]⟩ (BA ([47] : List UInt8)) (BA ([97] : List UInt8)) 9 want pgB W hw (by decide) hm (by decide) (by decide) (by decide) known_B
  go_enter Try.func20, Try.ntmps20
  go_wp2_with first | (go_at_call 22; refine (hV _).mono ?_; clear hV; rintro e w1 ⟨rfl, b1⟩) | (go_at_call 21; refine (hK1 _ _ ⟨_, rfl, srcR_row (rows := [itmC (itm ([97] : List UInt8) ([118, 49] : List UInt8) false)]) (heap_alloc_new w1 _) (by simp [itmC])⟩ (((b1.trans ((ba w1 _).mono b1.size)).cell (p := ⟨0, 0, none⟩) HM.out).trans HM0.out)).mono ?_; clear hK1; rintro e w2 ⟨rfl, b2⟩) | (go_at_call 21; refine (hK2 _ _ ⟨_, rfl, srcR_row (rows := [itmC (comItm ([98, 47] : List UInt8))]) (heap_alloc_new w2 _) (by simp [itmC])⟩ (((b1.trans ((bt (bt (ba w1 _) b2) (ba w2 _)).mono b1.size)).cell (p := ⟨0, 0, none⟩) HM.out).trans HM0.out)).mono ?_; clear hK2; rintro e w3 ⟨rfl, b3⟩)
  go_ret
  exact ⟨rfl, bt b1 (bt (ba w1 _) (bt b2 (bt (ba w2 _) b3)))⟩
end Go.Proofs.Ytdaokkajbooiaaa
end
