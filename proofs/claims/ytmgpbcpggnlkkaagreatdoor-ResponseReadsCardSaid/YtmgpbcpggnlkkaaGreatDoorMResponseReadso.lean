/- Texts of this proof, put together: Rd27, Hd27, Hx27, Aw27, Rj27. -/
import Derived.Test.YtmgpbcpggnlkkaaGreatDoorMResponseReadsn
import Derived.Test.YtmgpbcpggnlkkaaGreatDoorMResponseReadsh
import Derived.Deep.RegionHeld3
import Derived.Deep.MidRow
import Derived.Test.YtmgpbcpggnlkkaaGreatDoorMResponseReadsl
section
/- response.read, by its walk. -/
namespace Go.Proofs.YtmgpbcpggnlkkaaGreatDoor
open Go.RowKit Go.Lib Go.Proofs.YtmgpbcpggnlkkaaGreatDoorW.PrintWords Go.Proofs.YtmgpbcpggnlkkaaGreatDoorW.PrintLast Go.Proofs.YtmgpbcpggnlkkaaGreatDoorW.PrintMore
set_option linter.unusedVariables false
set_option linter.unusedSimpArgs false
theorem results_cell_tmp2 {fn : Func} {p u x : Tmp} {ty : TypeId} (h : fn.results = #[.cell p ty, .tmp u, .tmp x]) (tmps : Array Value) (P : Program) (w : World) :
    (results fn tmps).run P w =
      ((asAddr (tmps.getD p undef)).run P w).andThen fun a w₁ => ((loadVar ty a).run P w₁).andThen fun v w₂ => .ok (.tuple #[v, tmps.getD u undef, tmps.getD x undef]) w₂ := by
  simp only [results, h]
  simp [Sem.run_bind, Result.andThen]
theorem results_row_tmp2 {P : Program} {fn : Func} {p u x : Tmp} {ty : TypeId} (h : fn.results = #[.cell p ty, .tmp u, .tmp x]) (tmps : Array Value) (w : World) (g : Nat) (t : TypeId) (cs : Array Value) (fr : Nat × Nat) (d : TypeDesc) (v v' : Value)
    (hp : tmps.getD p undef = .pointer (some ⟨g, 0, none⟩)) (hq : tmps.getD u undef = v) (hq' : tmps.getD x undef = v') (hg : w.heap[g]? = some (.cells cs t fr))
    (hu : P.underlying ty = some d) (hd : (match d with | .struct _ | .array _ _ => true | _ => false) = true) (hi : (P.info? ty).map (·.size) = some cs.size) :
    (results fn tmps).run P w = .ok (.tuple #[.agg cs, v, v']) w := by
  rw [results_cell_tmp2 h, hp, hq, hq']
  simp [asAddr, run_loadVar_row w g t ty cs fr d hg hu hd hi]
theorem read_ress : Tryz.f20.results = #[.cell 2 26, .tmp 3, .tmp 4] := by kernel_rfl
theorem resp3 : (Tryz.prog.info? 26).map (·.size) = some 3 := by kernel_rfl
def pairS (p : Bs × Bs) : SPair := ⟨BA p.1, BA p.2⟩
def pairC (p : Bs × Bs) : List Value := [.string (BA p.1), .string (BA p.2)]
def ReadQ (t : Bs) (w : World) (e : Ending) (w' : World) : Prop :=
  match parseP t with
  | some (st, hs, n) => ∃ A k c, e = .returned (.tuple #[.agg #[.int .i64 st, .slice A k c, .slice none 0 0], .int .i64 (n : Int), .bool true]) ∧ hs.length = k ∧ w'.ownsRow w.heap.size 51 2 (.slice A k c) k (hs.flatMap pairC) ∧ Below w.heap.size w w'
  | none => ∃ st A k c n, e = .returned (.tuple #[.agg #[.int .i64 st, .slice A k c, .slice none 0 0], .int .i64 n, .bool false]) ∧ Below w.heap.size w w'
abbrev zbox : Array Value := #[.int .i64 0, .slice none 0 0, .slice none 0 0]
/-- The blocks of this call: the result's, the lines', the answer's. -/
structure Rst (t : Bs) (w : World) (st : Int) (hv : Value) (wr : World) : Prop where
  a : wr.heap[w.heap.size]? = some (.cells zbox 26 (0, 0))
  b : wr.heap[w.heap.size + 1]? = some (.cells ((linesB t).map Value.string).toArray 9 (0, 0))
  c : wr.heap[w.heap.size + 1 + 1]? = some (.cells #[.int .i64 st, hv, .slice none 0 0] 26 (0, 0))
  d : Below w.heap.size w wr
  e : w.heap.size + 3 ≤ wr.heap.size
theorem Rst.below {t : Bs} {w wr w2 : World} {st : Int} {hv : Value} (h : Rst t w st hv wr) (hb : Below wr.heap.size wr w2) : Rst t w st hv w2 :=
  ⟨blk_below h.a hb, blk_below h.b hb, blk_below h.c hb, h.d.trans (hb.mono h.d.size), Nat.le_trans h.e hb.size⟩
theorem Rst.drewN {t : Bs} {w wr : World} {st : Int} {hv : Value} (h : Rst t w st hv wr) (n : Nat) : Rst t w st hv (wr.drewN n) :=
  ⟨h.a, h.b, h.c, below_drewN h.d n, h.e⟩
theorem Rst.line {t : Bs} {w wr : World} {st : Int} {hv : Value} (h : Rst t w st hv wr) (j : Nat) (hj : j < (linesB t).length) : wr.cell? ⟨w.heap.size + 1, j, none⟩ = some (.string (linesB t)[j]) := by
  rw [blk_cell h.b]
  simp [hj]
theorem Rst.c0 {t : Bs} {w wr : World} {st : Int} {hv : Value} (h : Rst t w st hv wr) : wr.cell? ⟨w.heap.size + 1 + 1, 0, none⟩ = some (.int .i64 st) := by rw [blk_cell h.c]; rfl
theorem Rst.c1 {t : Bs} {w wr : World} {st : Int} {hv : Value} (h : Rst t w st hv wr) : wr.cell? ⟨w.heap.size + 1 + 1, 1, none⟩ = some hv := by rw [blk_cell h.c]; rfl
theorem Rst.c2 {t : Bs} {w wr : World} {st : Int} {hv : Value} (h : Rst t w st hv wr) : wr.cell? ⟨w.heap.size + 1 + 1, 2, none⟩ = some (.slice none 0 0) := by rw [blk_cell h.c]; rfl
theorem Rst.set0 {t : Bs} {w wr : World} {st : Int} {hv : Value} (h : Rst t w st hv wr) (st' : Int) : Rst t w st' hv (wr.setCell ⟨w.heap.size + 1 + 1, 0, none⟩ (.int .i64 st')) :=
  ⟨blk_far h.a (by show w.heap.size ≠ w.heap.size + 1 + 1; omega) _, blk_far h.b (by show w.heap.size + 1 ≠ w.heap.size + 1 + 1; omega) _, blk_put h.c 0 _ rfl, h.d.setCell (by show w.heap.size ≤ w.heap.size + 1 + 1; omega) _, by simpa [World.setCell] using h.e⟩
theorem Rst.grown {t : Bs} {w wr w2 : World} {st : Int} {hv : Value} {row : Option Nat} (h : Rst t w st hv wr) (hg : wr.grownBy w2 row) (hne : ∀ k, row = some k → w.heap.size + 3 ≤ k) : Rst t w st hv w2 := by
  have hs := h.e
  refine ⟨(hg.block _ (by omega) ?_).trans h.a, (hg.block _ (by omega) ?_).trans h.b, (hg.block _ (by omega) ?_).trans h.c, h.d.grown hg h.d.size (fun k hk => by have := hne k hk; omega), Nat.le_trans h.e hg.size⟩
  all_goals
    intro e
    have := hne _ e.symm
    omega
theorem Rst.set1 {t : Bs} {w wr : World} {st : Int} {hv : Value} (h : Rst t w st hv wr) (hv' : Value) : Rst t w st hv' (wr.setCell ⟨w.heap.size + 1 + 1, 1, none⟩ hv') :=
  ⟨blk_far h.a (by show w.heap.size ≠ w.heap.size + 1 + 1; omega) _, blk_far h.b (by show w.heap.size + 1 ≠ w.heap.size + 1 + 1; omega) _, blk_put h.c 1 _ rfl, h.d.setCell (by show w.heap.size ≤ w.heap.size + 1 + 1; omega) _, by simpa [World.setCell] using h.e⟩
theorem Rst.alloc {t : Bs} {w wr : World} {st : Int} {hv : Value} (h : Rst t w st hv wr) (o : Obj) : Rst t w st hv (wr.alloc o) := h.below ((Below.refl _ wr).alloc (Nat.le_refl _) o)
/-- The headers of the first lines behind the first one. -/
def plK (t : Bs) (k : Nat) : List (Bs × Bs) := (List.range k).map fun j => hdOf ((parts t).getD (j + 1) [])
theorem plK_succ (t : Bs) (k : Nat) : plK t (k + 1) = plK t k ++ [hdOf ((parts t).getD (k + 1) [])] := by
  unfold plK
  rw [List.range_succ, List.map_append]
  rfl
theorem plK_all (t : Bs) (h : 2 ≤ (parts t).length) : plK t ((parts t).length - 2) = (((parts t).drop 1).take ((parts t).length - 2)).map hdOf := by
  unfold plK
  apply List.ext_getElem
  · simp; omega
  · intro i h1 h2
    simp only [List.length_map, List.length_range] at h1
    simp only [List.getElem_map, List.getElem_range, List.getElem_take, List.getElem_drop]
    congr 1
    rw [List.getD_eq_getElem?_getD, List.getElem?_eq_getElem (by omega)]
    show (parts t)[i + 1] = (parts t)[1 + i]
    congr 1
    omega
theorem line_data (t : Bs) (j : Nat) (h : j < (linesB t).length) : ((linesB t)[j]'h).data.toList = (parts t).getD j [] := by
  rw [← linesB_data, List.getD_eq_getElem?_getD, List.getElem?_map, List.getElem?_eq_getElem h]
  rfl
theorem plK_len (t : Bs) (k : Nat) : (plK t k).length = k := by simp [plK]
theorem parts_le (t : Bs) (i : Nat) : ((parts t).getD i []).length ≤ t.length := by
  rw [List.getD_eq_getElem?_getD]
  cases h : (parts t)[i]? with
  | none => simp
  | some x =>
    have h1 := splitK_le crlf _ _ x (List.mem_of_getElem? h)
    have h2 := trimSuffix_le t four
    simp
    omega
theorem plK_size (t : Bs) (k : Nat) : ∀ p ∈ (plK t k).map pairS, p.f0.size ≤ t.length ∧ p.f1.size ≤ t.length := by
  intro p hp
  obtain ⟨q, hq, rfl⟩ := List.mem_map.1 hp
  unfold plK at hq
  obtain ⟨j, _, rfl⟩ := List.mem_map.1 hq
  have h1 := cut_len ((parts t).getD (j + 1) []) [58, 32]
  have h2 := parts_le t (j + 1)
  unfold pairS hdOf
  simp only [bs_len, ba_list]
  omega
theorem parse_end {t V R S R2 N X : Bs} {b1 b2 b3 xo : Bool} {sv xv : Int} (h1 : cut ((parts t).headD []) [32] = (V, R, b1)) (h2 : cut R [32] = (S, R2, b2)) (h3 : atoiV S = sv) (hv : V = okMsg) (hl : 2 ≤ (parts t).length) (h4 : cut ((parts t).getLastD []) [58, 32] = (N, X, b3)) (h5 : atoiV X = xv) (h6 : (match atoiAll X with | .ok _ => true | _ => false) = xo) (k : Nat) (hk : (parts t).length - 2 = k) :
    parseP t = if xo = true ∧ N = cl14 ∧ 0 ≤ xv ∧ xv ≤ 1048576 ∧ wrongL sv (plK t k) = 0 ∧ headL sv (plK t k) xv.toNat = t then some (sv, plK t k, xv.toNat) else none := by
  subst hk h3 h5 h6
  unfold parseP
  rw [h1, h4]
  simp only
  rw [h2]
  simp only
  rw [if_pos ⟨hv, hl⟩, ← plK_all t hl]
  unfold atoiV
  cases h : atoiAll X with
  | ok n => simp
  | «syntax» => simp
  | range => simp
theorem own_below {w w2 : World} {base : Nat} {e : TypeId} {size n : Nat} {v : Value} {xs : List Value} (h : w.ownsRow base e size v n xs) (hb : Below w.heap.size w w2) : w2.ownsRow base e size v n xs :=
  World.ownsRow.kept (row := none) h ⟨hb.os, hb.tape, hb.output, hb.size, fun k hk _ => hb.block k hk⟩ (by
    cases hv : v.ownBlock with
    | none => exact .inl rfl
    | some k => exact .inr (by simp))
theorem R_pairs {w : World} {base : Nat} {v : Value} {n : Nat} (hs : List (Bs × Bs)) (hn : hs.length = n) (h : w.ownsRow base 51 2 v n (hs.flatMap pairC)) : Kd.R Pr.k51 51 w base (fun _ => True) v (hs.map pairS) := by
  subst hn
  exact Pr.R_of_own (d := Pr.k51) pairS pairC (fun _ => rfl) hs (fun ok p => Pr.k51_mkM _ _ _ (pairS p)) h
theorem yields_row27 {P : Program} {ops : Array Oper} {S : World → Prop} {o : Oper} {a : Act} (hw : Region.wanted o (yielded ops a.tmps) = true) (ty : TypeId) (x : Operand) (ho : o.op = .load ty x)
    (g : Nat) (hx : a.eval x = .pointer (some ⟨g, 0, none⟩)) (t : TypeId) (cs : Array Value) (fr : Nat × Nat) (d : TypeDesc) (hg : ∀ w, S w → w.heap[g]? = some (.cells cs t fr))
    (hu : P.underlying ty = some d) (hd : (match d with | .struct _ | .array _ _ => true | _ => false) = true) (hi : (P.info? ty).map (·.size) = some cs.size) : YieldsIf P ops S o (.agg cs) a := by
  refine .inl ⟨hw, fun w hs => ?_⟩
  unfold execOp
  simp only [ho, hx, Instr.loadAt, Instr.sureAddr, Sem.run_bind, Sem.run_pure, Result.andThen_ok, run_loadVar_row w g t ty cs fr d (hg w hs) hu hd hi]
theorem own_src27 {w : World} {base : Nat} {e : TypeId} {v : Value} {l : List UInt8} (h : w.ownsRow base e 1 v l.length (Lib.byteCells l)) (hl : 0 < l.length) : ∃ g cap, v = .slice (some ⟨g, 0, none⟩) l.length cap ∧ Src w v (Lib.byteCells l) := by
  rcases h.2 with ⟨_, h0⟩ | ⟨g, cap, cur, rfl, hg, hh, hc, _, hs, ht⟩
  · omega
  · have hbl : (Lib.byteCells l).length = l.length := bc_len l
    refine ⟨g, cap, rfl, .inr ⟨g, 0, cap, by rw [hbl], by omega, fun j x hj => ?_⟩⟩
    have hjl := (List.getElem?_eq_some_iff.1 hj).1
    rw [Nat.zero_add, cell_of_row _ _ j _ _ (0, 0) hh]
    rw [← ht, List.getElem?_take, if_pos (by omega)] at hj
    rw [← Array.getElem?_toList]
    exact hj
theorem small_of_wrong {sv : Int} {hs : List (Bs × Bs)} (h : wrongL sv hs = 0) : wordsL sv ≠ [] ∧ SmallH (hs.map pairS) := by
  obtain ⟨h1, h2, h3⟩ := wrongL_zero h
  refine ⟨h1, ⟨by rw [List.length_map]; omega, fun p hp => ?_⟩⟩
  obtain ⟨q, hq, rfl⟩ := List.mem_map.1 hp
  have := h3 q hq
  unfold mayP at this
  simp only [Bool.and_eq_true, decide_eq_true_eq] at this
  unfold pairS
  simp only [bs_len, ba_list]
  omega
theorem infoPair : (Tryz.prog.info? 51).map (fun i => (i.zero, i.size, i.bytes)) = some (some (.agg #[.string ⟨#[]⟩, .string ⟨#[]⟩]), 2, 32) := by kernel_rfl
theorem line0_data (t : Bs) (h : 0 < (linesB t).length) : ((linesB t)[0]'h).data.toList = (parts t).headD [] := by
  rw [← linesB_data]
  revert h
  cases linesB t with
  | nil => intro h; simp at h
  | cons a r => intro h; rfl
theorem lineN_data (t : Bs) (h : (linesB t).length - 1 < (linesB t).length) : ((linesB t)[(linesB t).length - 1]'h).data.toList = (parts t).getLastD [] := by
  rw [← linesB_data]
  revert h
  generalize linesB t = l
  intro h
  rw [List.getLastD_eq_getLast?, List.getLast?_map, List.getLast?_eq_getElem?, List.getElem?_eq_getElem h]
  rfl
set_option maxHeartbeats 8000000 in
set_option maxRecDepth 10000 in
theorem read_any (b o c : Nat) (t : Bs) (w : World) (hG : Pr.GM w) (ht : t.length ≤ 400000) (hb : Src w (.slice (some ⟨b, o, none⟩) t.length c) (Lib.byteCells t)) :
    Calls Tryz.prog 20 #[.slice (some ⟨b, o, none⟩) t.length c] w (ReadQ t w) := by
  have q1 := src_string (P := Tryz.prog) (w := w.alloc (.cells #[.int .i64 0, .slice none 0 0, .slice none 0 0] 26)) (hb.block ((Below.refl _ w).alloc (Nat.le_refl _) _)) 22 9 5 Tryz.underlying22 Tryz.underlying5 Tryz.underlying9
  have HG := Lib.hid hG
  have htr := Tryz.strings_TrimSuffix (BA t) (⟨#[13, 10, 13, 10]⟩ : ByteArray) (w.alloc (.cells #[.int .i64 0, .slice none 0 0, .slice none 0 0] 26)) (by rw [bs_len, ba_list]; omega)
  have hsp := lines_any t (w.alloc (.cells #[.int .i64 0, .slice none 0 0, .slice none 0 0] 26)) (by omega) (Pr.GM.below ((Below.refl _ w).alloc (Nat.le_refl _) _) hG)
  rw [ba_list] at htr
  obtain ⟨nl, hnl⟩ : ∃ n, (linesB t).length = n := ⟨_, rfl⟩
  have hnl1 : 1 ≤ nl := by rw [← hnl, linesB_len]; omega
  have hnl2 : (nl : Int) ≤ 500000 := by
    have := count_le (BA (trimSuffix t four)).data.toList (BA crlf).data.toList
    rw [ba_list] at this
    have h2 := trimSuffix_le t four
    have h3 : countB (BA (trimSuffix t four)) (BA crlf) = count (BA (trimSuffix t four)).data.toList (BA crlf).data.toList := rfl
    rw [← hnl, linesB_len, h3, ba_list]
    omega
  have HL := Lib.hid hnl
  rw [hnl] at hsp
  clear hnl
  have hLsz := linesB_size t
  have hLd := linesB_data t
  clear hG
  obtain ⟨ip, hip, hpz0, hpz1, hpz2⟩ := info_parts infoPair
  go_enter Tryz.func20, Tryz.ntmps20
  go_wp2_with fail
  refine htr.mono ?_
  clear htr
  rintro e w' ⟨rfl, rfl⟩
  go_wp2_with fail
  refine hsp.mono ?_
  clear hsp
  rintro e w' ⟨rfl, rfl⟩
  have hR3 : Rst t w 0 (.slice none 0 0) (((w.alloc (.cells zbox 26)).alloc (.cells ((linesB t).map Value.string).toArray 9)).alloc (.cells zbox 26)) := by
    refine ⟨?_, ?_, ?_, (((Below.refl _ w).alloc (Nat.le_refl _) _).alloc (by simp) _).alloc (by simp; omega) _, by simp⟩
    · rw [heap_alloc_old _ _ (by simp; omega), heap_alloc_old _ _ (by simp)]
      exact heap_alloc_new _ _
    · rw [heap_alloc_old _ _ (by simp)]
      have := heap_alloc_new (w.alloc (.cells zbox 26)) (.cells ((linesB t).map Value.string).toArray 9)
      rwa [World.size_alloc] at this
    · have := heap_alloc_new ((w.alloc (.cells zbox 26)).alloc (.cells ((linesB t).map Value.string).toArray 9)) (.cells zbox 26)
      rwa [World.size_alloc, World.size_alloc] at this
  have hlp : 0 < (linesB t).length := by rw [HL.out]; omega
  have hl0 := hR3.line 0 hlp
  have hs0 := hLsz _ (List.getElem_mem hlp)
  obtain ⟨V, R, b1, hcut1, hlV, hlR⟩ := cut_ex ((parts t).headD []) [32]
  obtain ⟨S, R2, b2, hcut2, hlS, _⟩ := cut_ex R [32]
  obtain ⟨sv, hsv⟩ : ∃ n, atoiV S = n := ⟨_, rfl⟩
  obtain ⟨so, hso⟩ : ∃ b, (match atoiAll S with | .ok _ => true | _ => false) = b := ⟨_, rfl⟩
  have hd0 := line0_data t hlp
  generalize (linesB t)[0]'hlp = L0 at hl0 hs0 hd0
  have hl0z : ((parts t).headD []).length ≤ t.length := by rw [← hd0, ← bs_len]; exact hs0
  have hGM3 := Pr.GM.below hR3.d HG.out
  unfold zbox at hl0 hGM3 hR3
  have hc1 := fun W h => cut27_to L0 (⟨#[32]⟩ : ByteArray) V R b1 W (by rw [hd0]; exact hcut1) (by omega) h
  have hc2 := fun W h => cut27_to (BA R) (⟨#[32]⟩ : ByteArray) S R2 b2 W (by rw [ba_list]; exact hcut2) (by rw [bs_len, ba_list]; omega) h
  have hat := fun W h => atoi27_to (BA S) sv so W (by rw [ba_list]; exact hsv) (by rw [ba_list]; exact hso) (by rw [bs_len, ba_list]; omega) h
  have HC1 := Lib.hid hcut1
  have HC2 := Lib.hid hcut2
  have HSV := Lib.hid hsv
  clear hcut1 hcut2 hsv hso hd0 hLd
  go_wp2_with fail
  refine (hc1 _ hGM3).mono ?_
  clear hc1 hGM3
  rintro e w' ⟨rfl, n1, rfl⟩
  have hR4 := hR3.drewN n1
  clear hR3 hl0
  generalize ((((w.alloc (.cells #[.int .i64 0, .slice none 0 0, .slice none 0 0] 26)).alloc (.cells ((linesB t).map Value.string).toArray 9)).alloc (.cells #[.int .i64 0, .slice none 0 0, .slice none 0 0] 26)).drewN n1) = W4 at hR4 ⊢
  go_wp2_with fail
  refine (hc2 _ (Pr.GM.below hR4.d HG.out)).mono ?_
  clear hc2
  rintro e w' ⟨rfl, n2, rfl⟩
  have hR5 := hR4.drewN n2
  clear hR4
  generalize W4.drewN n2 = W5 at hR5 ⊢
  go_wp2_with fail
  refine (hat _ (Pr.GM.below hR5.d HG.out)).mono ?_
  clear hat
  rintro e W6 ⟨ev0, rfl, -, hb6⟩
  have hR6 := hR5.below hb6
  clear hR5 hb6
  have hq0 := hR6.c0
  have hf0 := blk_frozen hR6.c 0
  have hR7 := hR6.set0 sv
  by_cases hgood : V = okMsg ∧ 2 ≤ nl
  case neg =>
    have hp : parseP t = none := by
      unfold parseP
      rw [HC1.out, if_neg]
      intro h
      refine hgood ⟨h.1, ?_⟩
      rw [← HL.out, ← List.length_map (f := fun x : ByteArray => x.data.toList), linesB_data]
      exact h.2
    have hend : ∀ W, Below w.heap.size w W → ReadQ t w (.returned (.tuple #[.agg #[.int .i64 sv, .slice none 0 0, .slice none 0 0], .int .i64 0, .bool false])) W := fun W hW => by
      unfold ReadQ
      rw [hp]
      exact ⟨_, _, _, _, _, rfl, hW⟩
    have HEND := Lib.hid hend
    clear hp hend
    by_cases hver : V = okMsg
    · have hv1 : ((BA V).toList == ([72, 84, 84, 80, 47, 49, 46, 49] : List UInt8)) = true := by rw [bs_toList, ba_list, hver]; rfl
      have h2 : nl < 2 := by
        rcases Nat.lt_or_ge nl 2 with h | h
        · exact h
        · exact absurd ⟨hver, h⟩ hgood
      have h2b : (nl : Int) < 2 := by omega
      clear hgood hver
      go_upto_region 7 with (fail)
      clear hq0 hf0 hR6
      generalize W6.setCell ⟨w.heap.size + 1 + 1, 0, none⟩ (.int .i64 sv) = W7 at hR7 ⊢
      have k0 := hR7.c0
      have k1 := hR7.c1
      have k2 := hR7.c2
      have a0 : W7.cell? ⟨w.heap.size, 0, none⟩ = some (.int .i64 0) := by rw [blk_cell hR7.a]; rfl
      have a1 : W7.cell? ⟨w.heap.size, 1, none⟩ = some (.slice none 0 0) := by rw [blk_cell hR7.a]; rfl
      have a2 : W7.cell? ⟨w.heap.size, 2, none⟩ = some (.slice none 0 0) := by rw [blk_cell hR7.a]; rfl
      have f0 := blk_frozen hR7.a 0
      have f1 := blk_frozen hR7.a 1
      have f2 := blk_frozen hR7.a 2
      have hz := blk_put (blk_put (blk_put hR7.a 0 (.int .i64 sv) rfl) 1 (.slice none 0 0) rfl) 2 (.slice none 0 0) rfl
      have hbe := ((hR7.d.setCell (p := ⟨w.heap.size, 0, none⟩) (Nat.le_refl _) (.int .i64 sv)).setCell (p := ⟨w.heap.size, 1, none⟩) (Nat.le_refl _) (.slice none 0 0)).setCell (p := ⟨w.heap.size, 2, none⟩) (Nat.le_refl _) (.slice none 0 0)
      have HZ := Lib.hid hz
      clear hz
      go_wp2
      exact bodyPost_ret (v := .tuple #[.agg #[.int .i64 sv, .slice none 0 0, .slice none 0 0], .int .i64 0, .bool false]) (results_row_tmp2 read_ress _ _ w.heap.size 26 _ (0, 0) _ _ _ rfl rfl rfl HZ.out Tryz.underlying26 rfl resp3) rfl (HEND.out _ hbe)
    · have hv1 : ((BA V).toList == ([72, 84, 84, 80, 47, 49, 46, 49] : List UInt8)) = false := by rw [bs_toList, ba_list]; exact beq_eq_false_iff_ne.2 hver
      clear hgood hver
      go_upto_region 7 with (fail)
      clear hq0 hf0 hR6
      generalize W6.setCell ⟨w.heap.size + 1 + 1, 0, none⟩ (.int .i64 sv) = W7 at hR7 ⊢
      have k0 := hR7.c0
      have k1 := hR7.c1
      have k2 := hR7.c2
      have a0 : W7.cell? ⟨w.heap.size, 0, none⟩ = some (.int .i64 0) := by rw [blk_cell hR7.a]; rfl
      have a1 : W7.cell? ⟨w.heap.size, 1, none⟩ = some (.slice none 0 0) := by rw [blk_cell hR7.a]; rfl
      have a2 : W7.cell? ⟨w.heap.size, 2, none⟩ = some (.slice none 0 0) := by rw [blk_cell hR7.a]; rfl
      have f0 := blk_frozen hR7.a 0
      have f1 := blk_frozen hR7.a 1
      have f2 := blk_frozen hR7.a 2
      have hz := blk_put (blk_put (blk_put hR7.a 0 (.int .i64 sv) rfl) 1 (.slice none 0 0) rfl) 2 (.slice none 0 0) rfl
      have hbe := ((hR7.d.setCell (p := ⟨w.heap.size, 0, none⟩) (Nat.le_refl _) (.int .i64 sv)).setCell (p := ⟨w.heap.size, 1, none⟩) (Nat.le_refl _) (.slice none 0 0)).setCell (p := ⟨w.heap.size, 2, none⟩) (Nat.le_refl _) (.slice none 0 0)
      have HZ := Lib.hid hz
      clear hz
      go_wp2
      exact bodyPost_ret (v := .tuple #[.agg #[.int .i64 sv, .slice none 0 0, .slice none 0 0], .int .i64 0, .bool false]) (results_row_tmp2 read_ress _ _ w.heap.size 26 _ (0, 0) _ _ _ rfl rfl rfl HZ.out Tryz.underlying26 rfl resp3) rfl (HEND.out _ hbe)
  obtain ⟨hver, h2⟩ := hgood
  have hv1 : ((BA V).toList == ([72, 84, 84, 80, 47, 49, 46, 49] : List UInt8)) = true := by rw [bs_toList, ba_list, hver]; rfl
  have h2i : (2 : Int) ≤ (nl : Int) := by omega
  have HVER := Lib.hid hver
  clear hver
  go_wp2
  clear hq0 hf0 hR6
  go_loopw [63] (fun i wr => ∃ (k : Nat) (hv : Value), k ≤ nl - 1 - 1 ∧ i = .int .i64 k ∧ Rst t w sv hv wr ∧ wr.ownsRow (w.heap.size + 3) 51 2 hv k ((plK t k).flatMap pairC)) (fun i _ => nl - (Go.RowKit.intOf i).toNat)
  case atStart => exact ⟨0, .slice none 0 0, Nat.zero_le _, rfl, hR7, ⟨rfl, .inl ⟨rfl, rfl⟩⟩⟩
  case round =>
    clear hR7
    obtain ⟨k, hv, hk, rfl, hR, hown⟩ := hrel
    by_cases hlt : k < nl - 1 - 1
    · have hki : k + 1 < (linesB t).length := by rw [HL.out]; omega
      have hln := hR.line (k + 1) hki
      have hlsz := hLsz _ (List.getElem_mem hki)
      have hld := line_data t (k + 1) hki
      generalize (linesB t)[k + 1]'hki = L at hln hlsz hld
      obtain ⟨N, X, b3, hcut3, hlN, hlX⟩ := cut_ex L.data.toList [58, 32]
      have hc3 := cut27_to L (⟨#[58, 32]⟩ : ByteArray) N X b3 wr hcut3 (by omega) (Pr.GM.below hR.d HG.out)
      have hnx : hdOf ((parts t).getD (k + 1) []) = (N, X) := by rw [← hld]; unfold hdOf; rw [hcut3]
      have HNX := Lib.hid hnx
      have HC3 := Lib.hid hcut3
      clear hnx hcut3 hld
      rw [Nat.add_comm k 1] at hln
      go_wp2_with fail
      refine hc3.mono ?_
      clear hc3 hln
      rintro e w' ⟨rfl, n3, rfl⟩
      have hR2 := hR.drewN n3
      have hown2 : (wr.drewN n3).ownsRow (w.heap.size + 3) 51 2 hv k ((plK t k).flatMap pairC) := hown
      clear hR hown
      generalize wr.drewN n3 = w8 at hR2 hown2 ⊢
      have hR3 := hR2.alloc (.cells #[.string (BA N), .string (BA X)] 51)
      have hown3 := hown2.alloc (.cells #[.string (BA N), .string (BA X)] 51)
      have hnw := World.news_of_block (heap_alloc_new w8 (.cells #[.string (BA N), .string (BA X)] 51))
      have k1 := hR2.c1
      have hsz8 := hR2.e
      rcases Go.Joins.ownsRow_forms hown2 with ⟨rfl, -⟩ | ⟨g, cap, rfl⟩
      all_goals
        go_wp2_with (at_builtin; refine wpList_append_own _ rfl _ _ 24 rfl (w.heap.size + 3) 51 ip _ 2 32 Tryz.underlying24 hip hpz0 hpz1 hpz2 rfl (by decide) _ _ _ rfl hown3 ⟨w8.heap.size, 0, none⟩ 1 1 [.string (BA N), .string (BA X)] rfl rfl hnw (by intro u hu; simp at hu; rcases hu with rfl | rfl <;> rfl) (by unfold maxLen; omega) (by omega) (by simp; omega) ?_)
        intro v2 w9 hown4 hgrow _
        have hR4 := hR3.grown hgrow (fun k hk => (hown3.lt k hk).1)
        have hf1 := blk_frozen hR4.c 1
        have hq1 := hR4.c1
        obtain ⟨g2, cap2, hv2⟩ := Go.Joins.ownsRow_form hown4 (by omega)
        subst hv2
        have hown5 : w9.ownsRow (w.heap.size + 3) 51 2 (.slice (some ⟨g2, 0, none⟩) (k + 1) cap2) (k + 1) ((plK t (k + 1)).flatMap pairC) := by
          rw [plK_succ, HNX.out, List.flatMap_append]
          exact hown4
        have hown6 := ownsRow_setCell_below hown5 (a := ⟨w.heap.size + 1 + 1, 1, none⟩) (by show w.heap.size + 1 + 1 < w.heap.size + 3; omega) (.slice (some ⟨g2, 0, none⟩) (k + 1) cap2)
        have hR5 := hR4.set1 (.slice (some ⟨g2, 0, none⟩) (k + 1) cap2)
        clear hown2 hown3 hown4 hown5 hR2 hR3 hnw hgrow
        go_wp2
        go_roundw
        case rel => exact ⟨k + 1, _, by omega, by go_num, hR5, hown6⟩
        case measure => simp [Go.RowKit.intOf]; omega
    · have hkk : k = nl - 1 - 1 := by omega
      have HKK := Lib.hid hkk
      clear hkk
      have hki : nl - 1 < (linesB t).length := by rw [HL.out]; omega
      have hln := hR.line (nl - 1) hki
      have hlsz := hLsz _ (List.getElem_mem hki)
      have hld : ((linesB t)[nl - 1]'hki).data.toList = (parts t).getLastD [] := by
        have := lineN_data t (by rw [HL.out]; omega)
        simp only [HL.out] at this
        exact this
      generalize (linesB t)[nl - 1]'hki = L at hln hlsz hld
      obtain ⟨N, X, b3, hcut3, hlN, hlX⟩ := cut_ex L.data.toList [58, 32]
      obtain ⟨xv, hxv⟩ : ∃ n, atoiV X = n := ⟨_, rfl⟩
      obtain ⟨xo, hxo⟩ : ∃ b, (match atoiAll X with | .ok _ => true | _ => false) = b := ⟨_, rfl⟩
      have hc3 := fun W h => cut27_to L (⟨#[58, 32]⟩ : ByteArray) N X b3 W hcut3 (by omega) h
      have hat := fun W h => atoi27_to (BA X) xv xo W (by rw [ba_list]; exact hxv) (by rw [ba_list]; exact hxo) (by rw [bs_len, ba_list]; have := bs_len L; omega) h
      have HC3 : Hid (cut ((parts t).getLastD []) [58, 32] = (N, X, b3)) := Lib.hid (by rw [← hld]; exact hcut3)
      have HXV := Lib.hid hxv
      have HXO := Lib.hid hxo
      clear hcut3 hld hxv hxo
      have hnl1i : ((nl - 1 : Nat) : Int) = (nl : Int) - 1 := by omega
      go_wp2_with fail
      refine (hc3 _ (Pr.GM.below hR.d HG.out)).mono ?_
      clear hc3
      rintro e w' ⟨rfl, n3, rfl⟩
      have hR2 := hR.drewN n3
      have hown2 : (wr.drewN n3).ownsRow (w.heap.size + 3) 51 2 hv k ((plK t k).flatMap pairC) := hown
      clear hR hown hln
      generalize wr.drewN n3 = w8 at hR2 hown2 ⊢
      go_wp2_with fail
      refine (hat _ (Pr.GM.below hR2.d HG.out)).mono ?_
      clear hat
      rintro e w9 ⟨ev, rfl, hev, hb9⟩
      have hR3 := hR2.below hb9
      have hown3 := own_below hown2 hb9
      clear hR2 hown2 hb9
      obtain ⟨A4, c4, hhv⟩ : ∃ A c, hv = .slice A k c := by
        rcases Go.Joins.ownsRow_forms hown3 with ⟨h, h0⟩ | ⟨g, cap, h⟩
        · exact ⟨none, 0, by rw [h, h0]⟩
        · exact ⟨_, _, h⟩
      subst hhv
      have hpe := parse_end HC1.out HC2.out HSV.out HVER.out (by rw [← linesB_data, List.length_map, HL.out]; exact h2) HC3.out HXV.out HXO.out k (by rw [← linesB_data, List.length_map, HL.out]; have := HKK.out; omega)
      have k0 := hR3.c0
      have k1 := hR3.c1
      have k2 := hR3.c2
      have a0 : w9.cell? ⟨w.heap.size, 0, none⟩ = some (.int .i64 0) := by rw [blk_cell hR3.a]; rfl
      have a1 : w9.cell? ⟨w.heap.size, 1, none⟩ = some (.slice none 0 0) := by rw [blk_cell hR3.a]; rfl
      have a2 : w9.cell? ⟨w.heap.size, 2, none⟩ = some (.slice none 0 0) := by rw [blk_cell hR3.a]; rfl
      have f0 := blk_frozen hR3.a 0
      have f1 := blk_frozen hR3.a 1
      have f2 := blk_frozen hR3.a 2
      have HPE := Lib.hid hpe
      clear hpe
      have hend : parseP t = none → ∀ W, Below w.heap.size w W → ReadQ t w (.returned (.tuple #[.agg #[.int .i64 sv, (.slice A4 k c4), .slice none 0 0], .int .i64 0, .bool false])) W := fun hp W hW => by
        unfold ReadQ
        rw [hp]
        exact ⟨_, _, _, _, _, rfl, hW⟩
      by_cases hg : xo = true ∧ N = cl14 ∧ 0 ≤ xv ∧ xv ≤ 1048576
      case neg =>
        have HEND := Lib.hid (hend (by rw [HPE.out, if_neg]; intro h; exact hg ⟨h.1, h.2.1, h.2.2.1, h.2.2.2.1⟩))
        clear hend
        rcases hev with ⟨hxo, rfl⟩ | ⟨hxo, t5, p5, rfl⟩
        · by_cases hN : N = cl14
          · have hn1 : ((BA N).toList == ([99, 111, 110, 116, 101, 110, 116, 45, 108, 101, 110, 103, 116, 104] : List UInt8)) = true := by rw [bs_toList, ba_list, hN]; rfl
            rcases Int.lt_or_le xv 0 with h0 | h0
            · clear hg hN hxo
              go_upto_region 18 with (fail)
              have hz := blk_put (blk_put (blk_put hR3.a 0 (.int .i64 sv) rfl) 1 (.slice A4 k c4) rfl) 2 (.slice none 0 0) rfl
              have hbe := ((hR3.d.setCell (p := ⟨w.heap.size, 0, none⟩) (Nat.le_refl _) (.int .i64 sv)).setCell (p := ⟨w.heap.size, 1, none⟩) (Nat.le_refl _) (.slice A4 k c4)).setCell (p := ⟨w.heap.size, 2, none⟩) (Nat.le_refl _) (.slice none 0 0)
              have HZ := Lib.hid hz
              clear hz
              go_wp2
              exact bodyPost_ret (v := .tuple #[.agg #[.int .i64 sv, (.slice A4 k c4), .slice none 0 0], .int .i64 0, .bool false]) (results_row_tmp2 read_ress _ _ w.heap.size 26 _ (0, 0) _ _ _ rfl rfl rfl HZ.out Tryz.underlying26 rfl resp3) rfl (HEND.out _ hbe)
            · have h1 : 1048576 < xv := by
                rcases Int.lt_or_le 1048576 xv with h | h
                · exact h
                · exact absurd ⟨hxo, hN, h0, h⟩ hg
              clear hg hN hxo
              go_upto_region 18 with (fail)
              have hz := blk_put (blk_put (blk_put hR3.a 0 (.int .i64 sv) rfl) 1 (.slice A4 k c4) rfl) 2 (.slice none 0 0) rfl
              have hbe := ((hR3.d.setCell (p := ⟨w.heap.size, 0, none⟩) (Nat.le_refl _) (.int .i64 sv)).setCell (p := ⟨w.heap.size, 1, none⟩) (Nat.le_refl _) (.slice A4 k c4)).setCell (p := ⟨w.heap.size, 2, none⟩) (Nat.le_refl _) (.slice none 0 0)
              have HZ := Lib.hid hz
              clear hz
              go_wp2
              exact bodyPost_ret (v := .tuple #[.agg #[.int .i64 sv, (.slice A4 k c4), .slice none 0 0], .int .i64 0, .bool false]) (results_row_tmp2 read_ress _ _ w.heap.size 26 _ (0, 0) _ _ _ rfl rfl rfl HZ.out Tryz.underlying26 rfl resp3) rfl (HEND.out _ hbe)
          · have hn1 : ((BA N).toList == ([99, 111, 110, 116, 101, 110, 116, 45, 108, 101, 110, 103, 116, 104] : List UInt8)) = false := by rw [bs_toList, ba_list]; exact beq_eq_false_iff_ne.2 hN
            clear hg hN hxo
            go_upto_region 18 with (fail)
            have hz := blk_put (blk_put (blk_put hR3.a 0 (.int .i64 sv) rfl) 1 (.slice A4 k c4) rfl) 2 (.slice none 0 0) rfl
            have hbe := ((hR3.d.setCell (p := ⟨w.heap.size, 0, none⟩) (Nat.le_refl _) (.int .i64 sv)).setCell (p := ⟨w.heap.size, 1, none⟩) (Nat.le_refl _) (.slice A4 k c4)).setCell (p := ⟨w.heap.size, 2, none⟩) (Nat.le_refl _) (.slice none 0 0)
            have HZ := Lib.hid hz
            clear hz
            go_wp2
            exact bodyPost_ret (v := .tuple #[.agg #[.int .i64 sv, (.slice A4 k c4), .slice none 0 0], .int .i64 0, .bool false]) (results_row_tmp2 read_ress _ _ w.heap.size 26 _ (0, 0) _ _ _ rfl rfl rfl HZ.out Tryz.underlying26 rfl resp3) rfl (HEND.out _ hbe)
        · clear hg hxo
          go_upto_region 18 with (fail)
          have hz := blk_put (blk_put (blk_put hR3.a 0 (.int .i64 sv) rfl) 1 (.slice A4 k c4) rfl) 2 (.slice none 0 0) rfl
          have hbe := ((hR3.d.setCell (p := ⟨w.heap.size, 0, none⟩) (Nat.le_refl _) (.int .i64 sv)).setCell (p := ⟨w.heap.size, 1, none⟩) (Nat.le_refl _) (.slice A4 k c4)).setCell (p := ⟨w.heap.size, 2, none⟩) (Nat.le_refl _) (.slice none 0 0)
          have HZ := Lib.hid hz
          clear hz
          go_wp2
          exact bodyPost_ret (v := .tuple #[.agg #[.int .i64 sv, (.slice A4 k c4), .slice none 0 0], .int .i64 0, .bool false]) (results_row_tmp2 read_ress _ _ w.heap.size 26 _ (0, 0) _ _ _ rfl rfl rfl HZ.out Tryz.underlying26 rfl resp3) rfl (HEND.out _ hbe)
      obtain ⟨g1, g2, g3, g4⟩ := hg
      have hev2 : ev = .nilIface := by
        rcases hev with ⟨_, h⟩ | ⟨h, _⟩
        · exact h
        · rw [g1] at h; cases h
      subst hev2
      clear hev
      have hn1 : ((BA N).toList == ([99, 111, 110, 116, 101, 110, 116, 45, 108, 101, 110, 103, 116, 104] : List UInt8)) = true := by rw [bs_toList, ba_list, g2]; rfl
      have G1 := Lib.hid g1
      have G2 := Lib.hid g2
      clear g1 g2
      have hRR := R_pairs (plK t k) (plK_len t k) hown3
      obtain ⟨r1, r2, r3⟩ := Kd.R_reads' hRR
      rw [List.length_map, plK_len] at r1 r3
      have hpsz : ∀ p ∈ (plK t k).map pairS, p.f0.size ≤ 1000000 ∧ p.f1.size ≤ 1000000 := fun p hp => by
        have := plK_size t k p hp
        omega
      have hlk : ((plK t k).map pairS).length = k := by rw [List.length_map, plK_len]
      have hback : ((plK t k).map pairS).map pairL = plK t k := by
        rw [List.map_map]
        conv => rhs; rw [← List.map_id (plK t k)]
        apply List.map_congr_left
        intro p _
        exact pair_back p
      have hwf := wrong_f sv ((plK t k).map pairS) [] (by rw [hlk]; have := HKK.out; omega) hpsz (((plK t k).map pairS).length + 1) (Nat.le_refl _)
      rw [hback] at hwf
      have hwc := Pr.response_wrong.calls _ sv A4 c4 ((plK t k).map pairS) none 0 [] _ w9 (by rw [hlk]; exact r3) (by rw [hlk]; exact r2) (Kd.C_nil _ _) (Nat.le_refl _) hwf
      rw [hlk] at hwc
      clear hwf hback hpsz r1
      have HEND0 := Lib.hid hend
      clear hend
      have hlk2 := hlk
      have HLK := Lib.hid hlk
      clear hlk hlk2
      go_wp2_with fail
      refine hwc.mono ?_
      clear hwc
      rintro e w10 ⟨rfl, hb10⟩
      have hR4 := hR3.below hb10
      have hown4 := own_below hown3 hb10
      clear hR3 hown3 hRR r2 r3 hb10 k0 k1 k2 a0 a1 a2 f0 f1 f2
      have k0 := hR4.c0
      have k1 := hR4.c1
      have k2 := hR4.c2
      have a0 : w10.cell? ⟨w.heap.size, 0, none⟩ = some (.int .i64 0) := by rw [blk_cell hR4.a]; rfl
      have a1 : w10.cell? ⟨w.heap.size, 1, none⟩ = some (.slice none 0 0) := by rw [blk_cell hR4.a]; rfl
      have a2 : w10.cell? ⟨w.heap.size, 2, none⟩ = some (.slice none 0 0) := by rw [blk_cell hR4.a]; rfl
      have f0 := blk_frozen hR4.a 0
      have f1 := blk_frozen hR4.a 1
      have f2 := blk_frozen hR4.a 2
      by_cases hw0 : wrongL sv (plK t k) = 0
      case neg =>
        have HEND := Lib.hid (HEND0.out (by rw [HPE.out, if_neg]; intro h; exact hw0 h.2.2.2.2.1))
        clear HEND0
        have hwb : (wrongL sv (plK t k) == 0) = false := beq_eq_false_iff_ne.2 hw0
        clear hw0
        go_upto_region 18 with (fail)
        have hz := blk_put (blk_put (blk_put hR4.a 0 (.int .i64 sv) rfl) 1 (.slice A4 k c4) rfl) 2 (.slice none 0 0) rfl
        have hbe := ((hR4.d.setCell (p := ⟨w.heap.size, 0, none⟩) (Nat.le_refl _) (.int .i64 sv)).setCell (p := ⟨w.heap.size, 1, none⟩) (Nat.le_refl _) (.slice A4 k c4)).setCell (p := ⟨w.heap.size, 2, none⟩) (Nat.le_refl _) (.slice none 0 0)
        have HZ := Lib.hid hz
        clear hz
        go_wp2
        exact bodyPost_ret (v := .tuple #[.agg #[.int .i64 sv, (.slice A4 k c4), .slice none 0 0], .int .i64 0, .bool false]) (results_row_tmp2 read_ress _ _ w.heap.size 26 _ (0, 0) _ _ _ rfl rfl rfl HZ.out Tryz.underlying26 rfl resp3) rfl (HEND.out _ hbe)
      have hwb : (wrongL sv (plK t k) == 0) = true := by rw [hw0]; rfl
      have HW0 := Lib.hid hw0
      clear hw0
      obtain ⟨s1, s2⟩ := small_of_wrong HW0.out
      have hRR := R_pairs (plK t k) (plK_len t k) hown4
      obtain ⟨-, r2, r3⟩ := Kd.R_reads' hRR
      have hGM := Pr.GM.below hR4.d HG.out
      have hbk : ((plK t k).map pairS).map pairL = plK t k := by
        rw [List.map_map]
        conv => rhs; rw [← List.map_id (plK t k)]
        apply List.map_congr_left
        intro p _
        exact pair_back p
      have hhd := head_any sv A4 c4 ((plK t k).map pairS) (.slice none 0 0) xv w10.drew (Pr.GM.drew hGM) (Kd.C_drew r3) s1 s2 g3 (by omega) rfl
      rw [hbk, HLK.out] at hhd
      clear hbk r2 r3 hRR hGM s1 s2
      go_upto_region 19 with (fail)
      refine wp_region_held_drew (S := fun W => W.heap[w.heap.size + 1 + 1]? = some (.cells #[.int .i64 sv, .slice A4 k c4, .slice none 0 0] 26 (0, 0))) (by kernel_rfl) hR4.c (fun hHeld => ?_)
      refine wpAnyH_take (i := 0) (oi := _) (v := .agg #[.int .i64 sv, .slice A4 k c4, .slice none 0 0]) rfl (by kernel_rfl) (by kernel_rfl) (by kernel_rfl) (fun _ _ _ h => h) (yields_row27 (by rfl) 26 _ rfl (w.heap.size + 1 + 1) rfl 26 _ (0, 0) _ (fun w hs => hs) Tryz.underlying26 rfl resp3) hHeld ?_
      try simp only [List.getElem_toArray, List.getElem_cons_succ, List.getElem_cons_zero, Act.put, List.setIfInBounds_toArray, List.set_cons_zero, List.set_cons_succ]
      refine wpAnyH_take (i := 1) (oi := _) (v := ?_) rfl (by kernel_rfl) (by kernel_rfl) (by kernel_rfl) (fun _ _ _ h => h) (Or.inl ⟨by rfl, ?_⟩) hHeld ?_
      rotate_left
      · intro w hSw
        go_simp
        try with_reducible rfl
      try simp only [List.getElem_toArray, List.getElem_cons_succ, List.getElem_cons_zero, Act.put, List.setIfInBounds_toArray, List.set_cons_zero, List.set_cons_succ]
      refine wpAnyH_take (i := 2) (oi := _) (v := .agg #[.int .i64 sv, .slice A4 k c4, .slice none 0 0]) rfl (by kernel_rfl) (by kernel_rfl) (by kernel_rfl) (fun _ _ _ h => h) (yields_row27 (by rfl) 26 _ rfl (w.heap.size + 1 + 1) rfl 26 _ (0, 0) _ (fun w hs => hs) Tryz.underlying26 rfl resp3) hHeld ?_
      try simp only [List.getElem_toArray, List.getElem_cons_succ, List.getElem_cons_zero, Act.put, List.setIfInBounds_toArray, List.set_cons_zero, List.set_cons_succ]
      refine wpAnyH_take (i := 3) (oi := _) (v := ?_) rfl (by kernel_rfl) (by kernel_rfl) (by kernel_rfl) (fun _ _ _ h => h) (Or.inl ⟨by rfl, ?_⟩) hHeld ?_
      rotate_left
      · intro w hSw
        go_simp
        try with_reducible rfl
      try simp only [List.getElem_toArray, List.getElem_cons_succ, List.getElem_cons_zero, Act.put, List.setIfInBounds_toArray, List.set_cons_zero, List.set_cons_succ]
      refine wpAnyH_take (i := 5) (oi := _) (v := ?_) rfl (by kernel_rfl) (by kernel_rfl) (by kernel_rfl) (fun _ _ _ h => h) (Or.inl ⟨by rfl, ?_⟩) hHeld ?_
      rotate_left
      · intro w hSw
        go_simp
        try with_reducible rfl
      try simp only [List.getElem_toArray, List.getElem_cons_succ, List.getElem_cons_zero, Act.put, List.setIfInBounds_toArray, List.set_cons_zero, List.set_cons_succ]
      refine wpAnyH_ready (rs := [4]) (by kernel_rfl) (by simp) ?_
      refine AllReadyH.cons (o := _) rfl (fun K hK => ?_) AllReadyH.nil
      go_simp
      refine hhd.mono ?_
      clear hhd
      rintro e w11 ⟨hvv, rfl, hown5, hb11⟩
      have hb12 : Below w10.heap.size w10 w11 := ⟨hb11.os, hb11.tape, hb11.output, hb11.size, hb11.block⟩
      have hR5 := hR4.below hb12
      have hown6 := own_below hown4 hb12
      obtain ⟨g5, cap5, hf5, hsr⟩ := own_src27 hown5 (by rw [headL_join]; simp [four])
      subst hf5
      have q3 := src_string (P := Tryz.prog) hsr 22 9 5 Tryz.underlying22 Tryz.underlying5 Tryz.underlying9
      have q4 := src_string (P := Tryz.prog) (hb.block hR5.d) 22 9 5 Tryz.underlying22 Tryz.underlying5 Tryz.underlying9
      have heq := Tryz.bytes_Equal_strs _ _ _ _ _ q3 q4
      have hhl : ((⟨(headL sv (plK t k) xv.toNat).toArray⟩ : ByteArray).toList == (⟨t.toArray⟩ : ByteArray).toList) = decide (headL sv (plK t k) xv.toNat = t) := by
        rw [bs_toList, bs_toList, Bool.eq_iff_iff]
        simp
      rw [hhl] at heq
      clear q3 q4 hhl hb11 hb12 hown5 hsr hR4 hown4 k0 k1 k2 a0 a1 a2 f0 f1 f2
      go_wp2_with fail
      refine hK.out _ _ hR5.c (fun hHeld => ?_)
      clear hK K
      try simp only [List.getElem_toArray, List.getElem_cons_succ, List.getElem_cons_zero, Act.put, List.setIfInBounds_toArray, List.set_cons_zero, List.set_cons_succ]
      refine wpAnyH_ready (rs := [6]) (by kernel_rfl) (by simp) ?_
      refine AllReadyH.cons (o := _) rfl (fun K hK => ?_) AllReadyH.nil
      go_simp
      refine heq.mono ?_
      clear heq
      rintro e w12 ⟨rfl, hw12⟩
      obtain rfl : w11 = w12 := hw12.symm
      clear hw12
      go_wp2_with fail
      refine hK.out _ _ hR5.c (fun hHeld => ?_)
      clear hK K
      try simp only [List.getElem_toArray, List.getElem_cons_succ, List.getElem_cons_zero, Act.put, List.setIfInBounds_toArray, List.set_cons_zero, List.set_cons_succ]
      have a0 : w11.cell? ⟨w.heap.size, 0, none⟩ = some (.int .i64 0) := by rw [blk_cell hR5.a]; rfl
      have a1 : w11.cell? ⟨w.heap.size, 1, none⟩ = some (.slice none 0 0) := by rw [blk_cell hR5.a]; rfl
      have a2 : w11.cell? ⟨w.heap.size, 2, none⟩ = some (.slice none 0 0) := by rw [blk_cell hR5.a]; rfl
      have f0 := blk_frozen hR5.a 0
      have f1 := blk_frozen hR5.a 1
      have f2 := blk_frozen hR5.a 2
      have hz := blk_put (blk_put (blk_put hR5.a 0 (.int .i64 sv) rfl) 1 (.slice A4 k c4) rfl) 2 (.slice none 0 0) rfl
      have hbe := ((hR5.d.setCell (p := ⟨w.heap.size, 0, none⟩) (Nat.le_refl _) (.int .i64 sv)).setCell (p := ⟨w.heap.size, 1, none⟩) (Nat.le_refl _) (.slice A4 k c4)).setCell (p := ⟨w.heap.size, 2, none⟩) (Nat.le_refl _) (.slice none 0 0)
      have ho := ownsRow_setCell_below (ownsRow_setCell_below (ownsRow_setCell_below hown6 (a := ⟨w.heap.size, 0, none⟩) (by show w.heap.size < w.heap.size + 3; omega) (.int .i64 sv)) (a := ⟨w.heap.size, 1, none⟩) (by show w.heap.size < w.heap.size + 3; omega) (.slice A4 k c4)) (a := ⟨w.heap.size, 2, none⟩) (by show w.heap.size < w.heap.size + 3; omega) (.slice none 0 0)
      have hR6 := Go.Joins.ownsRow_le ho (Nat.le_add_right _ 3)
      have hS2 := blk_far (blk_far (blk_far hR5.c (p := ⟨w.heap.size, 0, none⟩) (by show w.heap.size + 1 + 1 ≠ w.heap.size; omega) (.int .i64 sv)) (p := ⟨w.heap.size, 1, none⟩) (by show w.heap.size + 1 + 1 ≠ w.heap.size; omega) (.slice A4 k c4)) (p := ⟨w.heap.size, 2, none⟩) (by show w.heap.size + 1 + 1 ≠ w.heap.size; omega) (.slice none 0 0)
      have HZ := Lib.hid hz
      clear hz ho
      refine wpAnyH_ready (rs := [7]) (by kernel_rfl) (by simp) ?_
      refine AllReadyH.cons (o := _) rfl (fun K hK => ?_) AllReadyH.nil
      go_simp
      refine hK.out _ _ hS2 (fun hHeld => ?_)
      clear hK K
      try simp only [List.getElem_toArray, List.getElem_cons_succ, List.getElem_cons_zero, Act.put, List.setIfInBounds_toArray, List.set_cons_zero, List.set_cons_succ]
      refine wpAnyH_take (i := 8) (oi := _) (v := ?_) rfl (by kernel_rfl) (by kernel_rfl) (by kernel_rfl) (fun _ _ _ h => h) (Or.inl ⟨by rfl, ?_⟩) hHeld ?_
      rotate_left
      · intro w hSw
        go_simp
        try with_reducible rfl
      try simp only [List.getElem_toArray, List.getElem_cons_succ, List.getElem_cons_zero, Act.put, List.setIfInBounds_toArray, List.set_cons_zero, List.set_cons_succ]
      refine wpAnyH_take (i := 9) (oi := _) (v := ?_) rfl (by kernel_rfl) (by kernel_rfl) (by kernel_rfl) (fun _ _ _ h => h) (Or.inl ⟨by rfl, ?_⟩) hHeld ?_
      rotate_left
      · intro w hSw
        go_simp
        try with_reducible rfl
      try simp only [List.getElem_toArray, List.getElem_cons_succ, List.getElem_cons_zero, Act.put, List.setIfInBounds_toArray, List.set_cons_zero, List.set_cons_succ]
      refine wpAnyH_done (by kernel_rfl) ?_ _
      clear hHeld
      go_wp2
      have hfin : ReadQ t w (.returned (.tuple #[.agg #[.int .i64 sv, .slice A4 k c4, .slice none 0 0], .int .i64 xv, .bool (decide (headL sv (plK t k) xv.toNat = t))])) (((w11.setCell ⟨w.heap.size, 0, none⟩ (.int .i64 sv)).setCell ⟨w.heap.size, 1, none⟩ (.slice A4 k c4)).setCell ⟨w.heap.size, 2, none⟩ (.slice none 0 0)) := by
        unfold ReadQ
        by_cases hx : headL sv (plK t k) xv.toNat = t
        · rw [HPE.out, if_pos ⟨G1.out, G2.out, g3, g4, HW0.out, hx⟩, decide_eq_true hx]
          exact ⟨_, _, _, by rw [Int.toNat_of_nonneg g3], plK_len t k, hR6, hbe⟩
        · rw [HPE.out, if_neg (fun h => hx h.2.2.2.2.2), decide_eq_false hx]
          exact ⟨_, _, _, _, _, rfl, hbe⟩
      exact bodyPost_ret (v := .tuple #[.agg #[.int .i64 sv, .slice A4 k c4, .slice none 0 0], .int .i64 xv, .bool (decide (headL sv (plK t k) xv.toNat = t))]) (results_row_tmp2 read_ress _ _ w.heap.size 26 _ (0, 0) _ _ _ rfl rfl rfl HZ.out Tryz.underlying26 rfl resp3) rfl hfin
end Go.Proofs.YtmgpbcpggnlkkaaGreatDoor
end
section
/- response.Read, by its walk. -/
namespace Go.Proofs.YtmgpbcpggnlkkaaGreatDoor
open Go.RowKit Go.Lib Go.Proofs.YtmgpbcpggnlkkaaGreatDoorW.PrintWords Go.Proofs.YtmgpbcpggnlkkaaGreatDoorW.PrintLast Go.Proofs.YtmgpbcpggnlkkaaGreatDoorW.PrintMore
set_option linter.unusedVariables false
set_option linter.unusedSimpArgs false
theorem dread_ress : Tryz.f6.results = #[.cell 2 26, .tmp 3, .tmp 4] := by kernel_rfl
theorem nums_len (t : Bs) : (Pr.numsL t).length = t.length := by simp [Pr.numsL]
theorem nums_of (t : Bs) : Lib.bytesOf (Pr.numsL t) = t := by
  unfold Lib.bytesOf Pr.numsL
  rw [List.map_map]
  conv => rhs; rw [← List.map_id t]
  apply List.map_congr_left
  intro b _
  simp
theorem nums_in (t : Bs) : ∀ x ∈ Pr.numsL t, 0 ≤ x ∧ x < 256 := by
  intro x hx
  obtain ⟨b, _, rfl⟩ := List.mem_map.1 hx
  have := b.toNat_lt
  omega
theorem index_cases (s sub : Bs) : index s sub = -1 ∨ ∃ i : Nat, index s sub = i ∧ i + sub.length ≤ s.length := by
  have h := Lib.indexB_cases (BA s) (BA sub)
  have e : Lib.indexB (BA s) (BA sub) = index s sub := rfl
  rw [e, bs_len, bs_len, ba_list, ba_list] at h
  exact h
theorem nums_cell {w : World} {b o c : Nat} {t : Bs} (h : Src w (.slice (some ⟨b, o, none⟩) t.length c) (Lib.byteCells t)) (ht : t ≠ []) : t.length ≤ c ∧ ∀ i, i < t.length → w.cell? ((⟨b, o, none⟩ : Addr).add i) = some (.int .u8 ((Pr.numsL t).getD i 0)) := by
  rcases h with ⟨_, _, h, _, h2⟩ | ⟨b', o', c', hu, hle, hc⟩
  · simp [Lib.byteCells] at h2
    exact absurd h2 ht
  · injection hu with h1 h2 h3
    injection h1 with h1
    injection h1 with h1 h4
    subst h1 h3 h4
    rw [bc_len] at hle
    refine ⟨hle, fun i hi => ?_⟩
    have hx := hc i (.int .u8 (t[i].toNat : Int)) (by simp [Lib.byteCells, hi])
    have e : (Pr.numsL t).getD i 0 = (t[i].toNat : Int) := by simp [Pr.numsL, hi]
    rw [e]
    cases i <;> simpa [Addr.add] using hx
theorem index_any (w : World) (A : Option Addr) (c : Nat) (t : Bs) (g : Nat) (hG : Pr.GM w) (ht : t.length ≤ 400000) (hb : t ≠ [] → Src w (.slice A t.length c) (Lib.byteCells t)) (hg : ∀ i, i < 4 → w.cell? ((⟨g, 0, none⟩ : Addr).add i) = some (.int .u8 (([13, 10, 13, 10] : List Int).getD i 0))) :
    Calls Tryz.prog 19 #[.slice A t.length c, .slice (some ⟨g, 0, none⟩) 4 4] w fun e w' => e = .returned (.int .i64 (index t four)) ∧ ∃ q, w' = w.drewN q := by
  obtain ⟨m, hm⟩ := hG.max
  have h4 : Lib.bytesOf ([13, 10, 13, 10] : List Int) = four := by decide
  cases t with
  | nil =>
    refine (Tryz.bytes_Index_longer A (some ⟨g, 0, none⟩) 0 c 4 4 w (by omega) (by omega) (by omega)).mono ?_
    rintro e w' ⟨rfl, rfl⟩
    exact ⟨rfl, 0, rfl⟩
  | cons x r =>
    replace hb := hb (by simp)
    obtain ⟨b, o, rfl⟩ : ∃ b o, A = some ⟨b, o, none⟩ := by
      rcases hb with ⟨_, _, h, _⟩ | ⟨b, o, _, h, _⟩
      · injection h with _ h2 _
        simp at h2
      · injection h with h1
        exact ⟨b, o, h1⟩
    obtain ⟨h1, h2⟩ := nums_cell hb (by simp)
    have h := Tryz.bytes_Index_at ⟨b, o, none⟩ ⟨g, 0, none⟩ (x :: r).length c 4 4 (Pr.numsL (x :: r)) [13, 10, 13, 10] m w (nums_len _) rfl (nums_in _) (by decide) h2 hg h1 (by omega) (by omega) hm
    rw [h4, nums_of] at h
    exact h
theorem drewN_heap {W : World} {k : Nat} {o : Obj} (h : W.heap[k]? = some o) (q : Nat) : (W.drewN q).heap[k]? = some o := h
theorem drewN_size {W : World} {k : Nat} (h : k ≤ W.heap.size) (q : Nat) : k ≤ (W.drewN q).heap.size := h
theorem own_kept {w w2 : World} {base n sz : Nat} {e : TypeId} {v : Value} {xs : List Value} (h : w.ownsRow base e sz v n xs) (hk : ∀ k, base ≤ k → k < w.heap.size → w2.heap[k]? = w.heap[k]?) : w2.ownsRow base e sz v n xs := by
  refine ⟨h.1, ?_⟩
  rcases h.2 with h | ⟨g, c, cur, hv, hg, hh, hr⟩
  · exact .inl h
  · have hlt : g < w.heap.size := by
      rcases Nat.lt_or_ge g w.heap.size with h | h
      · exact h
      · rw [Array.getElem?_eq_none h] at hh
        cases hh
    exact .inr ⟨g, c, cur, hv, hg, (hk g hg hlt).trans hh, hr⟩
/-- The answer's form. -/
def HReadO (t : Bs) (w : World) (e : Ending) (w' : World) : Prop :=
  ∃ hv bv, e = .returned (.tuple #[.agg #[.int .i64 (readP t).1.1, hv, bv], .int .i64 (readP t).2.1, .int .i64 (readP t).2.2]) ∧ Kd.R Pr.k51 51 w' w.heap.size (fun _ => True) hv ((readP t).1.2.1.map pairS) ∧ OwnB w' w.heap.size 5 bv (readP t).1.2.2 ∧ Below w.heap.size w w'
def HReadQ (t : Bs) (w : World) (e : Ending) (w' : World) : Prop :=
  ∃ hv bv, e = .returned (.tuple #[.agg #[.int .i64 (readP t).1.1, hv, bv], .int .i64 (readP t).2.1, .int .i64 (readP t).2.2]) ∧ Kd.R Pr.k51 51 w' w.heap.size (fun _ => True) hv ((readP t).1.2.1.map pairS) ∧ Kd.R (Kd.int .u8) 5 w' w.heap.size (fun _ => True) bv (Pr.numsL (readP t).1.2.2) ∧ Below w.heap.size w w'
theorem HReadO.nil {t : Bs} {w : World} {n e : Int} (h : readP t = ((0, [], []), n, e)) (W : World) (hb : Below w.heap.size w W) : HReadO t w (.returned (.tuple #[.agg #[.int .i64 0, .slice none 0 0, .slice none 0 0], .int .i64 n, .int .i64 e])) W := by
  unfold HReadO
  rw [h]
  exact ⟨_, _, rfl, R_pairs [] rfl ⟨rfl, .inl ⟨rfl, rfl⟩⟩, .inl ⟨rfl, rfl⟩, hb⟩
set_option maxHeartbeats 4000000 in
set_option maxRecDepth 10000 in
theorem hread_own (A : Option Addr) (c : Nat) (t : Bs) (w : World) (hG : Pr.GM w) (ht : t.length ≤ 400000) (hb : t ≠ [] → Src w (.slice A t.length c) (Lib.byteCells t)) :
    Calls Tryz.prog 6 #[.slice A t.length c] w (HReadO t w) := by
  have kc := fun (C : Array Value) (n c : Nat) => Go.Joins.run_convert_bytes_const_at (P := Tryz.prog) (w.alloc (.cells zbox 26)) 22 5 C n c (w.heap.size + 1) (by simp) Tryz.underlying22 Tryz.underlying5
  have hbw : Below w.heap.size w ((w.alloc (.cells zbox 26)).alloc (.cells #[.int .u8 13, .int .u8 10, .int .u8 13, .int .u8 10] 5 (4, 5))) := ((Below.refl _ w).alloc (Nat.le_refl _) _).alloc (by simp) _
  have hA1 : ((w.alloc (.cells zbox 26)).alloc (.cells #[.int .u8 13, .int .u8 10, .int .u8 13, .int .u8 10] 5 (4, 5))).heap[w.heap.size]? = some (.cells zbox 26 (0, 0)) := by
    rw [heap_alloc_old _ _ (by simp)]
    exact heap_alloc_new _ _
  have hB1 : ((w.alloc (.cells zbox 26)).alloc (.cells #[.int .u8 13, .int .u8 10, .int .u8 13, .int .u8 10] 5 (4, 5))).heap[w.heap.size + 1]? = some (.cells #[.int .u8 13, .int .u8 10, .int .u8 13, .int .u8 10] 5 (4, 5)) := by
    have := heap_alloc_new (w.alloc (.cells zbox 26)) (.cells #[.int .u8 13, .int .u8 10, .int .u8 13, .int .u8 10] 5 (4, 5))
    rwa [World.size_alloc] at this
  have hix := index_any ((w.alloc (.cells zbox 26)).alloc (.cells #[.int .u8 13, .int .u8 10, .int .u8 13, .int .u8 10] 5 (4, 5))) A c t (w.heap.size + 1) (Pr.GM.below hbw hG) ht (fun h => (hb h).block hbw) (fun i hi => by
    rcases i with _ | _ | _ | _ | i
    · exact cell_of_row _ _ 0 _ _ (4, 5) hB1
    · exact cell_of_row _ _ 1 _ _ (4, 5) hB1
    · exact cell_of_row _ _ 2 _ _ (4, 5) hB1
    · exact cell_of_row _ _ 3 _ _ (4, 5) hB1
    · omega)
  have hsz1 : w.heap.size + 2 ≤ ((w.alloc (.cells zbox 26)).alloc (.cells #[.int .u8 13, .int .u8 10, .int .u8 13, .int .u8 10] 5 (4, 5))).heap.size := by simp
  obtain ⟨at0, hat⟩ : ∃ i, index t four = i := ⟨_, rfl⟩
  rw [hat] at hix
  have hcs := index_cases t four
  rw [hat] at hcs
  have HAT := Lib.hid hat
  have HG := Lib.hid hG
  clear hG hat hB1
  unfold zbox at kc hix hbw hA1 hsz1
  go_enter Tryz.func6, Tryz.ntmps6
  go_wp2_with fail
  refine hix.mono ?_
  clear hix kc
  rintro e w' ⟨rfl, q, rfl⟩
  replace hbw := below_drewN hbw q
  replace hA1 := drewN_heap hA1 q
  replace hsz1 := drewN_size hsz1 q
  generalize (((w.alloc (.cells #[.int .i64 0, .slice none 0 0, .slice none 0 0] 26)).alloc (.cells #[.int .u8 13, .int .u8 10, .int .u8 13, .int .u8 10] 5 (4, 5))).drewN q) = W1 at hbw hA1 hsz1 ⊢
  by_cases hneg : at0 < 0
  · have hr : readP t = ((0, [], []), 0, 9) := by unfold readP; rw [HAT.out, if_pos hneg]
    have HR := Lib.hid (HReadO.nil (w := w) hr)
    clear hr
    have f0 := blk_frozen hA1 0
    have f1 := blk_frozen hA1 1
    have f2 := blk_frozen hA1 2
    have a0 : W1.cell? ⟨w.heap.size, 0, none⟩ = some (.int .i64 0) := by rw [blk_cell hA1]; rfl
    have a1 : W1.cell? ⟨w.heap.size, 1, none⟩ = some (.slice none 0 0) := by rw [blk_cell hA1]; rfl
    have a2 : W1.cell? ⟨w.heap.size, 2, none⟩ = some (.slice none 0 0) := by rw [blk_cell hA1]; rfl
    have hz := blk_put (blk_put (blk_put hA1 0 (.int .i64 0) rfl) 1 (.slice none 0 0) rfl) 2 (.slice none 0 0) rfl
    have hbe := ((hbw.setCell (p := ⟨w.heap.size, 0, none⟩) (Nat.le_refl _) (.int .i64 0)).setCell (p := ⟨w.heap.size, 1, none⟩) (Nat.le_refl _) (.slice none 0 0)).setCell (p := ⟨w.heap.size, 2, none⟩) (Nat.le_refl _) (.slice none 0 0)
    have HZ := Lib.hid hz
    clear hz
    go_wp2
    exact bodyPost_ret (v := .tuple #[.agg #[.int .i64 0, .slice none 0 0, .slice none 0 0], .int .i64 0, .int .i64 9]) (results_row_tmp2 dread_ress _ _ w.heap.size 26 _ (0, 0) _ _ _ rfl rfl rfl HZ.out Tryz.underlying26 rfl resp3) rfl (HR.out _ hbe)
  obtain ⟨i, rfl, hi4⟩ : ∃ i : Nat, at0 = i ∧ i + 4 ≤ t.length := by
    rcases hcs with h | ⟨i, h, h2⟩
    · omega
    · exact ⟨i, h, h2⟩
  clear hcs hneg
  replace hb := hb (by intro h; rw [h] at hi4; simp at hi4)
  obtain ⟨b, o, rfl⟩ : ∃ b o, A = some ⟨b, o, none⟩ := by
    rcases hb with ⟨_, _, h, _, h2⟩ | ⟨b, o, _, h, _⟩
    · rw [← bc_len, h2] at hi4
      simp at hi4
    · injection h with h1
      exact ⟨b, o, h1⟩
  have htc := (nums_cell hb (by intro h; rw [h] at hi4; simp at hi4)).1
  have htk : (t.take (i + 4)).length = i + 4 := by rw [List.length_take]; omega
  have hb2 : Src W1 (.slice (some ⟨b, o, none⟩) (t.take (i + 4)).length c) (Lib.byteCells (t.take (i + 4))) := by
    rcases hb.block hbw with ⟨_, _, _, _, h2⟩ | ⟨b', o', c', hu, _, hcl⟩
    · rw [← bc_len, h2] at hi4
      simp at hi4
    · injection hu with h1 _ _
      injection h1 with h1
      injection h1 with h1 h4
      subst h1 h4
      refine .inr ⟨b, o, _, by rw [bc_len], by rw [bc_len]; omega, fun j x hj => hcl j x ?_⟩
      rw [← hj]
      have hjl := (List.getElem?_eq_some_iff.1 hj).1
      rw [bc_len, htk] at hjl
      unfold Lib.byteCells
      rw [List.getElem?_map, List.getElem?_map, List.getElem?_take, if_pos hjl]
  have hrd := read_any b o c (t.take (i + 4)) W1 (Pr.GM.below hbw HG.out) (by omega) hb2
  rw [htk] at hrd hb2
  have HTK := Lib.hid htk
  clear htk
  have hn0 : ¬ ((i : Int) < 0) := by omega
  have hi4i : (i : Int) + 4 ≤ (t.length : Int) := by omega
  go_wp2_with fail
  refine hrd.mono ?_
  clear hrd
  rintro e W2 hq
  unfold ReadQ at hq
  cases hpp : parseP (t.take (i + 4)) with
  | none =>
    rw [hpp] at hq
    obtain ⟨st, A4, k4, c4, n, rfl, hb12⟩ := hq
    have hr : readP t = ((0, [], []), 0, 4) := by unfold readP; rw [HAT.out, if_neg (by omega), Int.toNat_natCast, hpp]
    have HR := Lib.hid (HReadO.nil (w := w) hr)
    clear hr hpp
    have hbw2 := hbw.trans (hb12.mono hbw.size)
    have hA2 := blk_below hA1 hb12
    have hbw3 := hbw2.alloc hbw2.size (.cells #[.int .i64 st, .slice A4 k4 c4, .slice none 0 0] 26)
    have hA3 := blk_below hA2 ((Below.refl _ W2).alloc (Nat.le_refl _) (.cells #[.int .i64 st, .slice A4 k4 c4, .slice none 0 0] 26))
    clear hb12 hbw2 hA2 hbw hA1 hb2
    go_upto_region 6 with (fail)
    generalize W2.alloc (.cells #[.int .i64 st, .slice A4 k4 c4, .slice none 0 0] 26) = W3 at hbw3 hA3 ⊢
    have f0 := blk_frozen hA3 0
    have f1 := blk_frozen hA3 1
    have f2 := blk_frozen hA3 2
    have a0 : W3.cell? ⟨w.heap.size, 0, none⟩ = some (.int .i64 0) := by rw [blk_cell hA3]; rfl
    have a1 : W3.cell? ⟨w.heap.size, 1, none⟩ = some (.slice none 0 0) := by rw [blk_cell hA3]; rfl
    have a2 : W3.cell? ⟨w.heap.size, 2, none⟩ = some (.slice none 0 0) := by rw [blk_cell hA3]; rfl
    have hz := blk_put (blk_put (blk_put hA3 0 (.int .i64 0) rfl) 1 (.slice none 0 0) rfl) 2 (.slice none 0 0) rfl
    have hbe := ((hbw3.setCell (p := ⟨w.heap.size, 0, none⟩) (Nat.le_refl _) (.int .i64 0)).setCell (p := ⟨w.heap.size, 1, none⟩) (Nat.le_refl _) (.slice none 0 0)).setCell (p := ⟨w.heap.size, 2, none⟩) (Nat.le_refl _) (.slice none 0 0)
    have HZ := Lib.hid hz
    clear hz
    go_wp2
    exact bodyPost_ret (v := .tuple #[.agg #[.int .i64 0, .slice none 0 0, .slice none 0 0], .int .i64 0, .int .i64 4]) (results_row_tmp2 dread_ress _ _ w.heap.size 26 _ (0, 0) _ _ _ rfl rfl rfl HZ.out Tryz.underlying26 rfl resp3) rfl (HR.out _ hbe)
  | some p =>
    obtain ⟨st, hs, n⟩ := p
    rw [hpp] at hq
    obtain ⟨A4, k4, c4, rfl, hk4, hR, hb12⟩ := hq
    have hbw2 := hbw.trans (hb12.mono hbw.size)
    have hA2 := blk_below hA1 hb12
    have hbw3 := hbw2.alloc hbw2.size (.cells #[.int .i64 st, .slice A4 k4 c4, .slice none 0 0] 26)
    have hA3 := blk_below hA2 ((Below.refl _ W2).alloc (Nat.le_refl _) (.cells #[.int .i64 st, .slice A4 k4 c4, .slice none 0 0] 26))
    have hB3 := heap_alloc_new W2 (.cells #[.int .i64 st, .slice A4 k4 c4, .slice none 0 0] 26)
    have hold3 : ∀ k, k < W2.heap.size → (W2.alloc (.cells #[.int .i64 st, .slice A4 k4 c4, .slice none 0 0] 26)).heap[k]? = W2.heap[k]? := fun k hk => heap_alloc_old _ _ hk
    have hsz2 := hb12.size
    have hn1 : n ≤ 1048576 := (parseP_some hpp).1.n
    have hsw2 := hbw2.size
    clear hb12 hbw2 hA2 hbw hA1 hb2
    have HPP := Lib.hid hpp
    clear hpp
    by_cases hbig : t.length - (i + 4) < n
    · have hr : readP t = ((0, [], []), 0, 9) := by unfold readP; rw [HAT.out, if_neg (by omega), Int.toNat_natCast, HPP.out]; simp only; rw [if_pos hbig]
      have HR := Lib.hid (HReadO.nil (w := w) hr)
      clear hr
      have hbigi : (t.length : Int) - i - 4 < n := by omega
      go_upto_region 8 with (fail)
      generalize W2.alloc (.cells #[.int .i64 st, .slice A4 k4 c4, .slice none 0 0] 26) = W3 at hbw3 hA3 ⊢
      have f0 := blk_frozen hA3 0
      have f1 := blk_frozen hA3 1
      have f2 := blk_frozen hA3 2
      have a0 : W3.cell? ⟨w.heap.size, 0, none⟩ = some (.int .i64 0) := by rw [blk_cell hA3]; rfl
      have a1 : W3.cell? ⟨w.heap.size, 1, none⟩ = some (.slice none 0 0) := by rw [blk_cell hA3]; rfl
      have a2 : W3.cell? ⟨w.heap.size, 2, none⟩ = some (.slice none 0 0) := by rw [blk_cell hA3]; rfl
      have hz := blk_put (blk_put (blk_put hA3 0 (.int .i64 0) rfl) 1 (.slice none 0 0) rfl) 2 (.slice none 0 0) rfl
      have hbe := ((hbw3.setCell (p := ⟨w.heap.size, 0, none⟩) (Nat.le_refl _) (.int .i64 0)).setCell (p := ⟨w.heap.size, 1, none⟩) (Nat.le_refl _) (.slice none 0 0)).setCell (p := ⟨w.heap.size, 2, none⟩) (Nat.le_refl _) (.slice none 0 0)
      have HZ := Lib.hid hz
      clear hz
      go_wp2
      exact bodyPost_ret (v := .tuple #[.agg #[.int .i64 0, .slice none 0 0, .slice none 0 0], .int .i64 0, .int .i64 9]) (results_row_tmp2 dread_ress _ _ w.heap.size 26 _ (0, 0) _ _ _ rfl rfl rfl HZ.out Tryz.underlying26 rfl resp3) rfl (HR.out _ hbe)
    · have hr : readP t = ((st, hs, (t.drop (i + 4)).take n), ((i + 4 + n : Nat) : Int), 0) := by unfold readP; rw [HAT.out, if_neg (by omega), Int.toNat_natCast, HPP.out]; simp only; rw [if_neg hbig]
      have HR := Lib.hid hr
      clear hr
      have hni : (n : Int) ≤ (t.length : Int) - i - 4 := by omega
      have hbig2 : i + 4 + n ≤ t.length := by omega
      have hb3 := hb.block hbw3
      clear hbig hb
      obtain ⟨i0, hif, hz0, hz1, hz2⟩ := info_parts infoU8
      have hlb : ((t.drop (i + 4)).take n).length = n := by rw [List.length_take, List.length_drop]; omega
      go_upto_region 9 with (fail)
      generalize hW3 : W2.alloc (.cells #[.int .i64 st, .slice A4 k4 c4, .slice none 0 0] 26) = W3 at hbw3 hA3 hB3 hold3 hb3 ⊢
      have hsz3 : W3.heap.size = W2.heap.size + 1 := by rw [← hW3]; simp
      clear hW3
      by_cases hcc : c = i + 4
      · have hn00 : n ≤ 0 := by omega
        subst hcc
        have hsg : Go.Src Tryz.prog 1 22 (.slice (some ⟨b, o, none⟩) (i + 4 + n - (i + 4)) (i + 4 - (i + 4))) ((t.drop (i + 4)).take n).length (Lib.byteCells ((t.drop (i + 4)).take n)) W3 := by
          obtain rfl : n = 0 := by omega
          rw [show i + 4 + 0 - (i + 4) = 0 by omega]
          try rw [show i + 4 - (i + 4) = 0 by omega]
          exact srcG_of (P := Tryz.prog) (tx := 22) Tryz.underlying22 (show Src W3 (.slice (some ⟨b, o, none⟩) 0 0) (Lib.byteCells ((t.drop (i + 4)).take 0)) from Or.inl ⟨some ⟨b, o, none⟩, 0, rfl, fun _ => rfl, by simp [Lib.byteCells]⟩)
        clear hb3
        have hnil : OwnB W3 W3.heap.size 5 (.slice none 0 0) [] := Or.inl ⟨rfl, rfl⟩
        have hlz : ([] : Bs).length + ((t.drop (i + 4)).take n).length ≤ 1000000000 := by rw [hlb]; simp; omega
        go_wp2_with (at_builtin; refine wpList_appB rfl _ _ 22 22 rfl 5 i0 Tryz.underlying22 hif hz0 hz1 hz2 W3.heap.size (.slice none 0 0) [] rfl hnil _ ((t.drop (i + 4)).take n) rfl hsg hlz (Nat.le_refl _) ?_)
        intro v4 W4 hown4 hg4
        clear hsg hlz hnil
        try rw [List.nil_append] at hown4
        obtain ⟨A5, c5, hv5, hc5, -⟩ := hown4.form
        rw [hlb] at hv5 hc5
        subst hv5
        have hB4 := blk_grown hB3 hg4 (by simp [Value.ownBlock])
        have hA4 := blk_grown hA3 hg4 (by simp [Value.ownBlock])
        have hold4 : ∀ k, k < W2.heap.size → W4.heap[k]? = W2.heap[k]? := fun k hk => (hg4.block k (by rw [hsz3]; omega) (by simp [Value.ownBlock])).trans (hold3 k hk)
        have hbw4 := hbw3.grown hg4 hbw3.size (fun k hk => by simp [Value.ownBlock] at hk)
        have hs4 := hg4.size
        clear hB3 hA3 hold3 hbw3 hg4
        have k2 := blk_cell hB4 2
        have kf := blk_frozen hB4 2
        have hB5 := blk_put hB4 2 (.slice A5 n c5) rfl
        go_upto_region 10 with (fail)
        have hA5 := blk_far hA4 (p := ⟨W2.heap.size, 2, none⟩) (by show w.heap.size ≠ W2.heap.size; omega) (.slice A5 n c5)
        have hbw5 := hbw4.setCell (p := ⟨W2.heap.size, 2, none⟩) hsw2 (.slice A5 n c5)
        have hold5 : ∀ k, k ≠ W2.heap.size → (W4.setCell ⟨W2.heap.size, 2, none⟩ (.slice A5 n c5)).heap[k]? = W4.heap[k]? := fun k hk => Below.heap_setCell W4 ⟨W2.heap.size, 2, none⟩ (.slice A5 n c5) k (by show k ≠ W2.heap.size; exact hk)
        clear k2 kf hA4 hB4 hbw4
        generalize W4.setCell ⟨W2.heap.size, 2, none⟩ (.slice A5 n c5) = W5 at hA5 hB5 hbw5 hold5 ⊢
        have f0 := blk_frozen hA5 0
        have f1 := blk_frozen hA5 1
        have f2 := blk_frozen hA5 2
        have a0 : W5.cell? ⟨w.heap.size, 0, none⟩ = some (.int .i64 0) := by rw [blk_cell hA5]; rfl
        have a1 : W5.cell? ⟨w.heap.size, 1, none⟩ = some (.slice none 0 0) := by rw [blk_cell hA5]; rfl
        have a2 : W5.cell? ⟨w.heap.size, 2, none⟩ = some (.slice none 0 0) := by rw [blk_cell hA5]; rfl
        have k0 : W5.cell? ⟨W2.heap.size, 0, none⟩ = some (.int .i64 st) := by rw [blk_cell hB5]; rfl
        have k1 : W5.cell? ⟨W2.heap.size, 1, none⟩ = some (.slice A4 k4 c4) := by rw [blk_cell hB5]; rfl
        have k2 : W5.cell? ⟨W2.heap.size, 2, none⟩ = some (.slice A5 n c5) := by rw [blk_cell hB5]; rfl
        have hz := blk_put (blk_put (blk_put hA5 0 (.int .i64 st) rfl) 1 (.slice A4 k4 c4) rfl) 2 (.slice A5 n c5) rfl
        have hbe := ((hbw5.setCell (p := ⟨w.heap.size, 0, none⟩) (Nat.le_refl _) (.int .i64 st)).setCell (p := ⟨w.heap.size, 1, none⟩) (Nat.le_refl _) (.slice A4 k4 c4)).setCell (p := ⟨w.heap.size, 2, none⟩) (Nat.le_refl _) (.slice A5 n c5)
        have hold6 : ∀ k, k ≠ w.heap.size → (((W5.setCell ⟨w.heap.size, 0, none⟩ (.int .i64 st)).setCell ⟨w.heap.size, 1, none⟩ (.slice A4 k4 c4)).setCell ⟨w.heap.size, 2, none⟩ (.slice A5 n c5)).heap[k]? = W5.heap[k]? := fun k hk =>
          (Below.heap_setCell _ ⟨w.heap.size, 2, none⟩ _ k (by show k ≠ w.heap.size; exact hk)).trans ((Below.heap_setCell _ ⟨w.heap.size, 1, none⟩ _ k (by show k ≠ w.heap.size; exact hk)).trans (Below.heap_setCell _ ⟨w.heap.size, 0, none⟩ _ k (by show k ≠ w.heap.size; exact hk)))
        have hfin : HReadO t w (.returned (.tuple #[.agg #[.int .i64 st, .slice A4 k4 c4, .slice A5 n c5], .int .i64 ((i : Int) + 4 + n), .int .i64 0])) (((W5.setCell ⟨w.heap.size, 0, none⟩ (.int .i64 st)).setCell ⟨w.heap.size, 1, none⟩ (.slice A4 k4 c4)).setCell ⟨w.heap.size, 2, none⟩ (.slice A5 n c5)) := by
          unfold HReadO
          rw [HR.out]
          refine ⟨.slice A4 k4 c4, .slice A5 n c5, by rw [show ((i + 4 + n : Nat) : Int) = (i : Int) + 4 + n by omega], R_pairs hs hk4 (Go.Joins.ownsRow_le (own_kept hR fun k h1 h2 => ?_) (by omega)), ?_, hbe⟩
          · exact (hold6 k (by omega)).trans ((hold5 k (by omega)).trans (hold4 k h2))
          · refine OwnB.le (hown4.keep fun k hk => ?_) (by omega)
            have := (hown4.lt k hk).1
            exact (hold6 k (by omega)).trans (hold5 k (by omega))
        have HZ := Lib.hid hz
        have HF := Lib.hid hfin
        clear hz hfin hold6 hold5 hold4 hown4 hR hA5 hB5 hbw5 hbe
        go_wp2
        exact bodyPost_ret (v := .tuple #[.agg #[.int .i64 st, .slice A4 k4 c4, .slice A5 n c5], .int .i64 ((i : Int) + 4 + n), .int .i64 0]) (results_row_tmp2 dread_ress _ _ w.heap.size 26 _ (0, 0) _ _ _ rfl rfl rfl HZ.out Tryz.underlying26 rfl resp3) rfl HF.out
      · have hsrc : Src W3 (.slice (some ⟨b, o + (i + 4), none⟩) n (c - (i + 4))) (Lib.byteCells ((t.drop (i + 4)).take n)) := by
          refine .inr ⟨b, o + (i + 4), _, by rw [bc_len, hlb], by rw [bc_len, hlb]; omega, fun j x hj => ?_⟩
          have hjl := (List.getElem?_eq_some_iff.1 hj).1
          rw [bc_len, hlb] at hjl
          rw [Nat.add_assoc]
          rcases hb3 with ⟨_, _, _, _, h2⟩ | ⟨b', o', c', hu, _, hcl⟩
          · rw [← bc_len, h2] at hbig2
            simp at hbig2
          · injection hu with h1 _ _
            injection h1 with h1
            injection h1 with h1 h4
            subst h1 h4
            refine hcl _ _ ?_
            rw [← hj]
            unfold Lib.byteCells
            rw [List.getElem?_map, List.getElem?_map, List.getElem?_take, if_pos hjl, List.getElem?_drop]
        have hsg : Go.Src Tryz.prog 1 22 (.slice (some ⟨b, o + (i + 4), none⟩) (i + 4 + n - (i + 4)) (c - (i + 4))) ((t.drop (i + 4)).take n).length (Lib.byteCells ((t.drop (i + 4)).take n)) W3 := by
          rw [show i + 4 + n - (i + 4) = n by omega]
          exact srcG_of (P := Tryz.prog) (tx := 22) Tryz.underlying22 hsrc
        clear hsrc hb3
        have hnil : OwnB W3 W3.heap.size 5 (.slice none 0 0) [] := Or.inl ⟨rfl, rfl⟩
        have hlz : ([] : Bs).length + ((t.drop (i + 4)).take n).length ≤ 1000000000 := by rw [hlb]; simp; omega
        go_wp2_with (at_builtin; refine wpList_appB rfl _ _ 22 22 rfl 5 i0 Tryz.underlying22 hif hz0 hz1 hz2 W3.heap.size (.slice none 0 0) [] rfl hnil _ ((t.drop (i + 4)).take n) rfl hsg hlz (Nat.le_refl _) ?_)
        intro v4 W4 hown4 hg4
        clear hsg hlz hnil
        try rw [List.nil_append] at hown4
        obtain ⟨A5, c5, hv5, hc5, -⟩ := hown4.form
        rw [hlb] at hv5 hc5
        subst hv5
        have hB4 := blk_grown hB3 hg4 (by simp [Value.ownBlock])
        have hA4 := blk_grown hA3 hg4 (by simp [Value.ownBlock])
        have hold4 : ∀ k, k < W2.heap.size → W4.heap[k]? = W2.heap[k]? := fun k hk => (hg4.block k (by rw [hsz3]; omega) (by simp [Value.ownBlock])).trans (hold3 k hk)
        have hbw4 := hbw3.grown hg4 hbw3.size (fun k hk => by simp [Value.ownBlock] at hk)
        have hs4 := hg4.size
        clear hB3 hA3 hold3 hbw3 hg4
        have k2 := blk_cell hB4 2
        have kf := blk_frozen hB4 2
        have hB5 := blk_put hB4 2 (.slice A5 n c5) rfl
        go_upto_region 10 with (fail)
        have hA5 := blk_far hA4 (p := ⟨W2.heap.size, 2, none⟩) (by show w.heap.size ≠ W2.heap.size; omega) (.slice A5 n c5)
        have hbw5 := hbw4.setCell (p := ⟨W2.heap.size, 2, none⟩) hsw2 (.slice A5 n c5)
        have hold5 : ∀ k, k ≠ W2.heap.size → (W4.setCell ⟨W2.heap.size, 2, none⟩ (.slice A5 n c5)).heap[k]? = W4.heap[k]? := fun k hk => Below.heap_setCell W4 ⟨W2.heap.size, 2, none⟩ (.slice A5 n c5) k (by show k ≠ W2.heap.size; exact hk)
        clear k2 kf hA4 hB4 hbw4
        generalize W4.setCell ⟨W2.heap.size, 2, none⟩ (.slice A5 n c5) = W5 at hA5 hB5 hbw5 hold5 ⊢
        have f0 := blk_frozen hA5 0
        have f1 := blk_frozen hA5 1
        have f2 := blk_frozen hA5 2
        have a0 : W5.cell? ⟨w.heap.size, 0, none⟩ = some (.int .i64 0) := by rw [blk_cell hA5]; rfl
        have a1 : W5.cell? ⟨w.heap.size, 1, none⟩ = some (.slice none 0 0) := by rw [blk_cell hA5]; rfl
        have a2 : W5.cell? ⟨w.heap.size, 2, none⟩ = some (.slice none 0 0) := by rw [blk_cell hA5]; rfl
        have k0 : W5.cell? ⟨W2.heap.size, 0, none⟩ = some (.int .i64 st) := by rw [blk_cell hB5]; rfl
        have k1 : W5.cell? ⟨W2.heap.size, 1, none⟩ = some (.slice A4 k4 c4) := by rw [blk_cell hB5]; rfl
        have k2 : W5.cell? ⟨W2.heap.size, 2, none⟩ = some (.slice A5 n c5) := by rw [blk_cell hB5]; rfl
        have hz := blk_put (blk_put (blk_put hA5 0 (.int .i64 st) rfl) 1 (.slice A4 k4 c4) rfl) 2 (.slice A5 n c5) rfl
        have hbe := ((hbw5.setCell (p := ⟨w.heap.size, 0, none⟩) (Nat.le_refl _) (.int .i64 st)).setCell (p := ⟨w.heap.size, 1, none⟩) (Nat.le_refl _) (.slice A4 k4 c4)).setCell (p := ⟨w.heap.size, 2, none⟩) (Nat.le_refl _) (.slice A5 n c5)
        have hold6 : ∀ k, k ≠ w.heap.size → (((W5.setCell ⟨w.heap.size, 0, none⟩ (.int .i64 st)).setCell ⟨w.heap.size, 1, none⟩ (.slice A4 k4 c4)).setCell ⟨w.heap.size, 2, none⟩ (.slice A5 n c5)).heap[k]? = W5.heap[k]? := fun k hk =>
          (Below.heap_setCell _ ⟨w.heap.size, 2, none⟩ _ k (by show k ≠ w.heap.size; exact hk)).trans ((Below.heap_setCell _ ⟨w.heap.size, 1, none⟩ _ k (by show k ≠ w.heap.size; exact hk)).trans (Below.heap_setCell _ ⟨w.heap.size, 0, none⟩ _ k (by show k ≠ w.heap.size; exact hk)))
        have hfin : HReadO t w (.returned (.tuple #[.agg #[.int .i64 st, .slice A4 k4 c4, .slice A5 n c5], .int .i64 ((i : Int) + 4 + n), .int .i64 0])) (((W5.setCell ⟨w.heap.size, 0, none⟩ (.int .i64 st)).setCell ⟨w.heap.size, 1, none⟩ (.slice A4 k4 c4)).setCell ⟨w.heap.size, 2, none⟩ (.slice A5 n c5)) := by
          unfold HReadO
          rw [HR.out]
          refine ⟨.slice A4 k4 c4, .slice A5 n c5, by rw [show ((i + 4 + n : Nat) : Int) = (i : Int) + 4 + n by omega], R_pairs hs hk4 (Go.Joins.ownsRow_le (own_kept hR fun k h1 h2 => ?_) (by omega)), ?_, hbe⟩
          · exact (hold6 k (by omega)).trans ((hold5 k (by omega)).trans (hold4 k h2))
          · refine OwnB.le (hown4.keep fun k hk => ?_) (by omega)
            have := (hown4.lt k hk).1
            exact (hold6 k (by omega)).trans (hold5 k (by omega))
        have HZ := Lib.hid hz
        have HF := Lib.hid hfin
        clear hz hfin hold6 hold5 hold4 hown4 hR hA5 hB5 hbw5 hbe
        go_wp2
        exact bodyPost_ret (v := .tuple #[.agg #[.int .i64 st, .slice A4 k4 c4, .slice A5 n c5], .int .i64 ((i : Int) + 4 + n), .int .i64 0]) (results_row_tmp2 dread_ress _ _ w.heap.size 26 _ (0, 0) _ _ _ rfl rfl rfl HZ.out Tryz.underlying26 rfl resp3) rfl HF.out
theorem hread_any (A : Option Addr) (c : Nat) (t : Bs) (w : World) (hG : Pr.GM w) (ht : t.length ≤ 400000) (hb : t ≠ [] → Src w (.slice A t.length c) (Lib.byteCells t)) :
    Calls Tryz.prog 6 #[.slice A t.length c] w (HReadQ t w) :=
  (hread_own A c t w hG ht hb).mono fun e w' ⟨hv, bv, h1, h2, h3, h4⟩ => ⟨hv, bv, h1, h2, Pr.R_bytes h3.row, h4⟩
end Go.Proofs.YtmgpbcpggnlkkaaGreatDoor
namespace Go.Proofs.YtmgpbcpggnlkkaaGreatDoor.Pr
open Go.RowKit Go.Proofs.YtmgpbcpggnlkkaaGreatDoorW.PrintWords Go.Proofs.YtmgpbcpggnlkkaaGreatDoorW.PrintLast Go.Proofs.YtmgpbcpggnlkkaaGreatDoorW.PrintMore
set_option linter.unusedVariables false
def isBytes (l : List Int) : Bool := l.all fun n => decide (0 ≤ n) && decide (n < 256)
def response_Read.f (l0 : List Int) : Option (Int × List SPair × List Int × Int × Int) :=
  if isBytes l0 = true ∧ l0.length ≤ 400000 then
    (let r := readP (Lib.bytesOf l0); some (r.1.1, r.1.2.1.map pairS, numsL r.1.2.2, r.2.1, r.2.2))
  else none
end Go.Proofs.YtmgpbcpggnlkkaaGreatDoor.Pr
end
section
/- stowagelaw27.xy, by its walk (its bytes are a constant's: no row of its own, so it is told by what it reads). -/
namespace Go.Proofs.YtmgpbcpggnlkkaaGreatDoor
open Go.RowKit Go.Lib Go.Proofs.YtmgpbcpggnlkkaaGreatDoorW.PrintWords Go.Proofs.YtmgpbcpggnlkkaaGreatDoorW.PrintLast Go.Proofs.YtmgpbcpggnlkkaaGreatDoorW.PrintMore
set_option linter.unusedVariables false
set_option linter.unusedSimpArgs false
theorem xy_ress : Tryz.f27.results = #[.cell 0 26] := by kernel_rfl
set_option maxHeartbeats 2000000 in
set_option maxRecDepth 10000 in
theorem xy_any (w : World) :
    Calls Tryz.prog 27 #[] w fun e w' => e = .returned (.agg #[.int .i64 200, .slice (some ⟨w.heap.size + 1, 0, none⟩) 1 1, .slice (some ⟨w.heap.size + 1 + 1, 0, none⟩) 2 2]) ∧ w'.heap[w.heap.size + 1]? = some (.cells #[.string ⟨#[97]⟩, .string ⟨#[98]⟩] 51 (0, 0)) ∧ w'.heap[w.heap.size + 1 + 1]? = some (.cells #[.int .u8 120, .int .u8 121] 5 (2, 3)) ∧ Below w.heap.size w w' := by
  have kc := fun (C : Array Value) (n c : Nat) => Go.Joins.run_convert_bytes_const_at (P := Tryz.prog) ((w.alloc (.cells zbox 26)).alloc (.cells #[.string ⟨#[97]⟩, .string ⟨#[98]⟩] 51)) 22 5 C n c (w.heap.size + 1 + 1) (by simp) Tryz.underlying22 Tryz.underlying5
  unfold zbox at kc
  go_enter Tryz.func27, Tryz.ntmps27
  go_wp2_with fail
  generalize hR : (Obj.cells #[.int .i64 200, .slice (some ⟨w.heap.size + 1, 0, none⟩) 1 1, .slice (some ⟨w.heap.size + 1 + 1, 0, none⟩) 2 2] 26) = o1
  generalize hP : (Obj.cells #[.string ⟨#[97]⟩, .string ⟨#[98]⟩] 51) = o2
  generalize hB : (Obj.cells #[.int .u8 120, .int .u8 121] 5 (2, 3)) = o3
  have h1 : (((w.alloc o1).alloc o2).alloc o3).heap[w.heap.size]? = some o1 := by
    rw [heap_alloc_old _ _ (by simp; omega), heap_alloc_old _ _ (by simp)]
    exact heap_alloc_new _ _
  have h2 : (((w.alloc o1).alloc o2).alloc o3).heap[w.heap.size + 1]? = some o2 := by
    rw [heap_alloc_old _ _ (by simp)]
    have := heap_alloc_new (w.alloc o1) o2
    rwa [World.size_alloc] at this
  have h3 : (((w.alloc o1).alloc o2).alloc o3).heap[w.heap.size + 1 + 1]? = some o3 := by
    have := heap_alloc_new ((w.alloc o1).alloc o2) o3
    rwa [World.size_alloc, World.size_alloc] at this
  have h4 : Below w.heap.size w (((w.alloc o1).alloc o2).alloc o3) := (((Below.refl _ w).alloc (Nat.le_refl _) _).alloc (by simp) _).alloc (by simp; omega) _
  have h1' := h1.trans (congrArg some hR.symm)
  exact bodyPost_ret (results_cell_row xy_ress _ _ w.heap.size 26 _ (0, 0) _ rfl h1' Tryz.underlying26 rfl resp3) rfl ⟨rfl, h2, h3, h4⟩
end Go.Proofs.YtmgpbcpggnlkkaaGreatDoor
end
section
/- stowagelaw27.awake, by its walk. -/
namespace Go.Proofs.YtmgpbcpggnlkkaaGreatDoor
open Go.RowKit Go.Lib Go.Proofs.YtmgpbcpggnlkkaaGreatDoorW.PrintWords Go.Proofs.YtmgpbcpggnlkkaaGreatDoorW.PrintLast Go.Proofs.YtmgpbcpggnlkkaaGreatDoorW.PrintMore
set_option linter.unusedVariables false
set_option linter.unusedSimpArgs false
abbrev hs1 : List Pr.S51 := [pairS ([97], [98])]
theorem xy_pairs {W : World} {g : Nat} (h : W.heap[g]? = some (.cells #[.string ⟨#[97]⟩, .string ⟨#[98]⟩] 51 (0, 0))) : Kd.C Pr.k51 W (some ⟨g, 0, none⟩) 1 hs1 := by
  refine ⟨rfl, by decide, fun _ => ⟨_, rfl, fun j p hj => ?_⟩⟩
  have hj0 : j = 0 := by have := (List.getElem?_eq_some_iff.1 hj).1; simp at this; omega
  subst hj0
  cases hj
  refine ⟨[.string ⟨#[97]⟩, .string ⟨#[98]⟩], rfl, Pr.k51.K_of_M (Pr.k51_mkM W 0 (fun _ => True) (pairS ([97], [98]))), fun i u hi => ?_⟩
  rcases i with _ | _ | i
  · cases hi; exact blk_cell h 0
  · cases hi; exact blk_cell h 1
  · simp at hi
theorem xy_body {W : World} {g : Nat} {fr : Nat × Nat} (h : W.heap[g]? = some (.cells #[.int .u8 120, .int .u8 121] 5 fr)) : Kd.C (Kd.int .u8) W (some ⟨g, 0, none⟩) 2 [120, 121] := by
  refine ⟨rfl, by decide, fun _ => ⟨_, rfl, fun j p hj => ?_⟩⟩
  have hj0 : j < 2 := (List.getElem?_eq_some_iff.1 hj).1
  refine ⟨[.int .u8 p], rfl, rfl, fun i u hi => ?_⟩
  rcases i with _ | i
  · cases hi
    rcases j with _ | _ | j
    · cases hj; exact cell_of_row _ _ 0 _ _ fr h
    · cases hj; exact cell_of_row _ _ 1 _ _ fr h
    · omega
  · simp at hi
def text47 : Bs := ([72, 84, 84, 80, 47, 49, 46, 49, 32, 50, 48, 48, 32, 79, 75, 13, 10, 97, 58, 32, 98, 13, 10, 99, 111, 110, 116, 101, 110, 116, 45, 108, 101, 110, 103, 116, 104, 58, 32, 50, 13, 10, 13, 10, 120, 121, 122] : List UInt8)
theorem read1 : readP text47 = ((200, [([97], [98])], [120, 121]), 46, 0) := by decide +kernel
theorem same1 : Pr.stowagekit_SameResponse.f 5 200 hs1 [120, 121] 200 hs1 [120, 121] = some true := by decide +kernel
theorem src_const {W : World} {g : Nat} {fr : Nat × Nat} {l : Bs} (h : W.heap[g]? = some (.cells (Lib.byteCells l).toArray 5 fr)) : Src W (.slice (some ⟨g, 0, none⟩) l.length l.length) (Lib.byteCells l) := by
  refine .inr ⟨g, 0, l.length, by rw [bc_len], by rw [bc_len]; omega, fun j x hj => ?_⟩
  rw [Nat.zero_add, cell_of_row _ _ j _ _ fr h, ← Array.getElem?_toList]
  exact hj
theorem bytes1 : Pr.response_Bytes.f 3 200 hs1 [120, 121] = some (Pr.numsL (([72, 84, 84, 80, 47, 49, 46, 49, 32, 50, 48, 48, 32, 79, 75, 13, 10, 97, 58, 32, 98, 13, 10, 99, 111, 110, 116, 101, 110, 116, 45, 108, 101, 110, 103, 116, 104, 58, 32, 50, 13, 10, 13, 10, 120, 121] : List UInt8)), 0) := by decide +kernel
def n46 : List Int := Pr.numsL (([72, 84, 84, 80, 47, 49, 46, 49, 32, 50, 48, 48, 32, 79, 75, 13, 10, 97, 58, 32, 98, 13, 10, 99, 111, 110, 116, 101, 110, 116, 45, 108, 101, 110, 103, 116, 104, 58, 32, 50, 13, 10, 13, 10, 120, 121] : List UInt8))
abbrev text46 : ByteArray := (⟨#[72, 84, 84, 80, 47, 49, 46, 49, 32, 50, 48, 48, 32, 79, 75, 13, 10, 97, 58, 32, 98, 13, 10, 99, 111, 110, 116, 101, 110, 116, 45, 108, 101, 110, 103, 116, 104, 58, 32, 50, 13, 10, 13, 10, 120, 121]⟩ : ByteArray)
theorem nums46 : strOfNums n46 = text46 := by decide +kernel
/-- What the last line's reads rest on. -/
def AwS (g : Nat) (cs : Array Value) (A : Option Addr) (W : World) : Prop := W.heap[g]? = some (.cells cs 26 (0, 0)) ∧ Kd.C (Kd.int .u8) W A 46 n46
theorem C_bel {W W2 : World} {A : Option Addr} {n : Nat} {l : List Int} (h : Kd.C (Kd.int .u8) W A n l) (hb : Below W.heap.size W W2) : Kd.C (Kd.int .u8) W2 A n l := Kd.C_below h hb
set_option maxHeartbeats 4000000 in
set_option maxRecDepth 10000 in
theorem awake_any (w : World) (hG : Pr.GM w) : Calls Tryz.prog 11 #[] w fun e w' => e = .returned (.bool true) ∧ Below w.heap.size w w' := by
  have HG := Lib.hid hG
  clear hG
  go_enter Tryz.func11, Tryz.ntmps11
  go_wp2_with fail
  refine (xy_any w).mono ?_
  rintro e w1 ⟨rfl, hP, hB, hb1⟩
  have hby := Pr.response_Bytes.calls 3 200 _ 1 hs1 _ 2 [120, 121] _ _ w1 (Pr.GM.below hb1 HG.out) (xy_pairs hP) (Nat.le_refl _) (xy_body hB) (Nat.le_refl _) bytes1
  have HB1 := Lib.hid hb1
  clear hb1
  go_wp2_with fail
  refine hby.mono ?_
  clear hby
  rintro e w2 ⟨v2, rfl, hR2, hb2⟩
  obtain ⟨A2, c2, rfl⟩ : ∃ A c, v2 = .slice A 46 c := Kd.R_slice hR2
  have hC2 : Hid (Kd.C (Kd.int .u8) w2 A2 46 n46) := Lib.hid (Kd.R_reads' hR2).2.2
  clear hR2
  have hbw2 := HB1.out.trans (hb2.mono HB1.out.size)
  have HB2 := Lib.hid hbw2
  clear hb2 hbw2 hP hB
  have kc := fun (C : Array Value) (n c : Nat) => Go.Joins.run_convert_bytes_const_at (P := Tryz.prog) w2 22 5 C n c w2.heap.size rfl Tryz.underlying22 Tryz.underlying5
  have hrd := hread_any (some ⟨w2.heap.size, 0, none⟩) 47 text47 (w2.alloc (.cells (Lib.byteCells text47).toArray 5 (47, 48))) (Pr.GM.below (HB2.out.alloc HB2.out.size _) HG.out) (by decide) (fun _ => src_const (heap_alloc_new _ _))
  go_wp2_with fail
  refine hrd.mono ?_
  clear hrd kc
  rintro e w3 ⟨hv, bv, he, h1, h2, h3⟩
  rw [read1] at he h1 h2
  subst he
  obtain ⟨A, c, rfl⟩ : ∃ A c, hv = .slice A 1 c := Kd.R_slice h1
  obtain ⟨B, d, rfl⟩ : ∃ A c, bv = .slice A 2 c := Kd.R_slice h2
  obtain ⟨-, q1, q2⟩ := Kd.R_reads' h1
  obtain ⟨-, q3, q4⟩ := Kd.R_reads' h2
  have hbw2' := HB2.out.alloc HB2.out.size (.cells (Lib.byteCells text47).toArray 5 (47, 48))
  have hb3 := hbw2'.trans (h3.mono hbw2'.size)
  have hb23 : Below w2.heap.size w2 (w3.alloc (.cells #[.int .i64 200, .slice A 1 c, .slice B 2 d] 26)) := (((Below.refl _ w2).alloc (Nat.le_refl _) _).trans (h3.mono (by simp))).alloc (by have := h3.size; simp at this; omega) _
  have HB3 := Lib.hid hb3
  clear hbw2' hb3
  go_wp2_with fail
  refine wp_region_held_drew (S := AwS w3.heap.size #[.int .i64 200, .slice A 1 c, .slice B 2 d] A2) (by kernel_rfl) ⟨heap_alloc_new _ _, C_bel (hC2.out) (below_drewN hb23 1)⟩ (fun hHeld => ?_)
  refine wpAnyH_take (i := 0) (oi := _) (v := ?_) rfl (by kernel_rfl) (by kernel_rfl) (by kernel_rfl) (fun _ _ _ h => h) (Or.inl ⟨by rfl, ?_⟩) hHeld ?_
  rotate_left
  · intro w hSw
    go_simp
    try with_reducible rfl
  try simp only [List.getElem_toArray, List.getElem_cons_succ, List.getElem_cons_zero, Act.put, List.setIfInBounds_toArray, List.set_cons_zero, List.set_cons_succ]
  refine wpAnyH_take (i := 1) (oi := _) (v := .string text46) rfl (by kernel_rfl) (by kernel_rfl) (by kernel_rfl) (fun _ _ _ h => h) (Or.inl ⟨by rfl, fun w hSw => ?_⟩) hHeld ?_
  · have hcv := Kd.C_string (P := Tryz.prog) (c := c2) Tryz.underlying22 Tryz.underlying5 Tryz.underlying9 hSw.2
    rw [nums46] at hcv
    go_simp
  refine wpAnyH_take (i := 2) (oi := _) (v := ?_) rfl (by kernel_rfl) (by kernel_rfl) (by kernel_rfl) (fun _ _ _ h => h) (Or.inl ⟨by rfl, ?_⟩) hHeld ?_
  rotate_left
  · intro w hSw
    go_simp
    try with_reducible rfl
  try simp only [List.getElem_toArray, List.getElem_cons_succ, List.getElem_cons_zero, Act.put, List.setIfInBounds_toArray, List.set_cons_zero, List.set_cons_succ]
  refine wpAnyH_take (i := 3) (oi := _) (v := ?_) rfl (by kernel_rfl) (by kernel_rfl) (by kernel_rfl) (fun _ _ _ h => h) (Or.inl ⟨by rfl, ?_⟩) hHeld ?_
  rotate_left
  · intro w hSw
    go_simp
    try with_reducible rfl
  try simp only [List.getElem_toArray, List.getElem_cons_succ, List.getElem_cons_zero, Act.put, List.setIfInBounds_toArray, List.set_cons_zero, List.set_cons_succ]
  refine wpAnyH_take (i := 4) (oi := _) (v := ?_) rfl (by kernel_rfl) (by kernel_rfl) (by kernel_rfl) (fun _ _ _ h => h) (Or.inl ⟨by rfl, ?_⟩) hHeld ?_
  rotate_left
  · intro w hSw
    go_simp
    try with_reducible rfl
  try simp only [List.getElem_toArray, List.getElem_cons_succ, List.getElem_cons_zero, Act.put, List.setIfInBounds_toArray, List.set_cons_zero, List.set_cons_succ]
  refine wpAnyH_take (i := 5) (oi := _) (v := ?_) rfl (by kernel_rfl) (by kernel_rfl) (by kernel_rfl) (fun _ _ _ h => h) (Or.inl ⟨by rfl, ?_⟩) hHeld ?_
  rotate_left
  · intro w hSw
    go_simp
    try with_reducible rfl
  try simp only [List.getElem_toArray, List.getElem_cons_succ, List.getElem_cons_zero, Act.put, List.setIfInBounds_toArray, List.set_cons_zero, List.set_cons_succ]
  refine wpAnyH_take (i := 6) (oi := _) (v := ?_) rfl (by kernel_rfl) (by kernel_rfl) (by kernel_rfl) (fun _ _ _ h => h) (Or.inl ⟨by rfl, ?_⟩) hHeld ?_
  rotate_left
  · intro w hSw
    go_simp
    try with_reducible rfl
  try simp only [List.getElem_toArray, List.getElem_cons_succ, List.getElem_cons_zero, Act.put, List.setIfInBounds_toArray, List.set_cons_zero, List.set_cons_succ]
  refine wpAnyH_take (i := 7) (oi := _) (v := ?_) rfl (by kernel_rfl) (by kernel_rfl) (by kernel_rfl) (fun _ _ _ h => h) (Or.inl ⟨by rfl, ?_⟩) hHeld ?_
  rotate_left
  · intro w hSw
    go_simp
    try with_reducible rfl
  try simp only [List.getElem_toArray, List.getElem_cons_succ, List.getElem_cons_zero, Act.put, List.setIfInBounds_toArray, List.set_cons_zero, List.set_cons_succ]
  refine wpAnyH_take (i := 8) (oi := _) (v := .agg #[.int .i64 200, .slice A 1 c, .slice B 2 d]) rfl (by kernel_rfl) (by kernel_rfl) (by kernel_rfl) (fun _ _ _ h => h) (yields_row27 (by rfl) 26 _ rfl w3.heap.size rfl 26 _ (0, 0) _ (fun w hs => hs.1) Tryz.underlying26 rfl resp3) hHeld ?_
  try simp only [List.getElem_toArray, List.getElem_cons_succ, List.getElem_cons_zero, Act.put, List.setIfInBounds_toArray, List.set_cons_zero, List.set_cons_succ]
  have hS0 := hHeld
  refine wpAnyH_ready (rs := [9]) (by kernel_rfl) (by simp) ?_
  refine AllReadyH.cons (o := _) rfl (fun K hK => ?_) AllReadyH.nil
  go_simp
  have hsz : (w3.alloc (.cells #[.int .i64 200, .slice A 1 c, .slice B 2 d] 26)).drew.heap.size = w3.heap.size + 1 := by show (w3.alloc _).heap.size = _; simp
  have hxy := xy_any ((w3.alloc (.cells #[.int .i64 200, .slice A 1 c, .slice B 2 d] 26)).drew)
  rw [hsz] at hxy
  clear hsz
  refine hxy.mono ?_
  clear hxy
  rintro e w4 ⟨rfl, hP, hB, hb4⟩
  have hb34 : Below w3.heap.size w3 w4 := (below_drewN ((Below.refl _ w3).alloc (Nat.le_refl _) (.cells #[.int .i64 200, .slice A 1 c, .slice B 2 d] 26)) 1).trans (hb4.mono (Nat.le_succ _))
  have hS4 : AwS w3.heap.size #[.int .i64 200, .slice A 1 c, .slice B 2 d] A2 w4 := ⟨(hb4.block _ (Nat.lt_succ_self _)).trans hS0.1, C_bel hS0.2 (by have h : (w3.alloc (.cells #[.int .i64 200, .slice A 1 c, .slice B 2 d] 26)).drew.heap.size = w3.heap.size + 1 := (by show (w3.alloc _).heap.size = _; simp); rw [h]; exact hb4)⟩
  have hsr := Pr.stowagekit_SameResponse.calls 5 200 A c hs1 B d [120, 121] 200 _ 1 hs1 _ 2 [120, 121] true w4 (Kd.C_below q2 hb34) q1 (Kd.C_below q4 hb34) q3 (xy_pairs hP) (Nat.le_refl _) (xy_body hB) (Nat.le_refl _) same1
  have HB4 := Lib.hid (HB3.out.trans (hb34.mono HB3.out.size))
  clear hb34 hb4 hP hB q1 q2 q3 q4 hb23 hS0
  go_wp2_with fail
  refine hK.out _ _ hS4 (fun hHeld => ?_)
  clear hK K
  try simp only [List.getElem_toArray, List.getElem_cons_succ, List.getElem_cons_zero, Act.put, List.setIfInBounds_toArray, List.set_cons_zero, List.set_cons_succ]
  refine wpAnyH_ready (rs := [10]) (by kernel_rfl) (by simp) ?_
  refine AllReadyH.cons (o := _) rfl (fun K hK => ?_) AllReadyH.nil
  go_simp
  refine hsr.mono ?_
  clear hsr
  rintro e w5 ⟨rfl, hb5⟩
  have HB5 := Lib.hid (HB4.out.trans (hb5.mono HB4.out.size))
  have hS5 : AwS w3.heap.size #[.int .i64 200, .slice A 1 c, .slice B 2 d] A2 w5 := ⟨(hb5.block _ (by have := (Array.getElem?_eq_some_iff.1 hS4.1).1; exact this)).trans hS4.1, C_bel hS4.2 hb5⟩
  clear hb5
  go_wp2_with fail
  refine hK.out _ _ hS5 (fun hHeld => ?_)
  clear hK K
  try simp only [List.getElem_toArray, List.getElem_cons_succ, List.getElem_cons_zero, Act.put, List.setIfInBounds_toArray, List.set_cons_zero, List.set_cons_succ]
  refine wpAnyH_take (i := 11) (oi := _) (v := ?_) rfl (by kernel_rfl) (by kernel_rfl) (by kernel_rfl) (fun _ _ _ h => h) (Or.inl ⟨by rfl, ?_⟩) hHeld ?_
  rotate_left
  · intro w hSw
    go_simp
    try with_reducible rfl
  try simp only [List.getElem_toArray, List.getElem_cons_succ, List.getElem_cons_zero, Act.put, List.setIfInBounds_toArray, List.set_cons_zero, List.set_cons_succ]
  refine wpAnyH_take (i := 12) (oi := _) (v := ?_) rfl (by kernel_rfl) (by kernel_rfl) (by kernel_rfl) (fun _ _ _ h => h) (Or.inl ⟨by rfl, ?_⟩) hHeld ?_
  rotate_left
  · intro w hSw
    go_simp
    try with_reducible rfl
  try simp only [List.getElem_toArray, List.getElem_cons_succ, List.getElem_cons_zero, Act.put, List.setIfInBounds_toArray, List.set_cons_zero, List.set_cons_succ]
  refine wpAnyH_take (i := 13) (oi := _) (v := ?_) rfl (by kernel_rfl) (by kernel_rfl) (by kernel_rfl) (fun _ _ _ h => h) (Or.inl ⟨by rfl, ?_⟩) hHeld ?_
  rotate_left
  · intro w hSw
    go_simp
    try with_reducible rfl
  try simp only [List.getElem_toArray, List.getElem_cons_succ, List.getElem_cons_zero, Act.put, List.setIfInBounds_toArray, List.set_cons_zero, List.set_cons_succ]
  refine wpAnyH_take (i := 14) (oi := _) (v := ?_) rfl (by kernel_rfl) (by kernel_rfl) (by kernel_rfl) (fun _ _ _ h => h) (Or.inl ⟨by rfl, ?_⟩) hHeld ?_
  rotate_left
  · intro w hSw
    go_simp
    try with_reducible rfl
  try simp only [List.getElem_toArray, List.getElem_cons_succ, List.getElem_cons_zero, Act.put, List.setIfInBounds_toArray, List.set_cons_zero, List.set_cons_succ]
  refine wpAnyH_take (i := 15) (oi := _) (v := ?_) rfl (by kernel_rfl) (by kernel_rfl) (by kernel_rfl) (fun _ _ _ h => h) (Or.inl ⟨by rfl, ?_⟩) hHeld ?_
  rotate_left
  · intro w hSw
    go_simp
    try with_reducible rfl
  try simp only [List.getElem_toArray, List.getElem_cons_succ, List.getElem_cons_zero, Act.put, List.setIfInBounds_toArray, List.set_cons_zero, List.set_cons_succ]
  refine wpAnyH_take (i := 16) (oi := _) (v := ?_) rfl (by kernel_rfl) (by kernel_rfl) (by kernel_rfl) (fun _ _ _ h => h) (Or.inl ⟨by rfl, ?_⟩) hHeld ?_
  rotate_left
  · intro w hSw
    go_simp
    try with_reducible rfl
  try simp only [List.getElem_toArray, List.getElem_cons_succ, List.getElem_cons_zero, Act.put, List.setIfInBounds_toArray, List.set_cons_zero, List.set_cons_succ]
  refine wpAnyH_take (i := 17) (oi := _) (v := ?_) rfl (by kernel_rfl) (by kernel_rfl) (by kernel_rfl) (fun _ _ _ h => h) (Or.inl ⟨by rfl, ?_⟩) hHeld ?_
  rotate_left
  · intro w hSw
    go_simp
    try with_reducible rfl
  try simp only [List.getElem_toArray, List.getElem_cons_succ, List.getElem_cons_zero, Act.put, List.setIfInBounds_toArray, List.set_cons_zero, List.set_cons_succ]
  refine wpAnyH_take (i := 18) (oi := _) (v := ?_) rfl (by kernel_rfl) (by kernel_rfl) (by kernel_rfl) (fun _ _ _ h => h) (Or.inl ⟨by rfl, ?_⟩) hHeld ?_
  rotate_left
  · intro w hSw
    go_simp
    try with_reducible rfl
  try simp only [List.getElem_toArray, List.getElem_cons_succ, List.getElem_cons_zero, Act.put, List.setIfInBounds_toArray, List.set_cons_zero, List.set_cons_succ]
  refine wpAnyH_take (i := 19) (oi := _) (v := ?_) rfl (by kernel_rfl) (by kernel_rfl) (by kernel_rfl) (fun _ _ _ h => h) (Or.inl ⟨by rfl, ?_⟩) hHeld ?_
  rotate_left
  · intro w hSw
    go_simp
    try with_reducible rfl
  try simp only [List.getElem_toArray, List.getElem_cons_succ, List.getElem_cons_zero, Act.put, List.setIfInBounds_toArray, List.set_cons_zero, List.set_cons_succ]
  refine wpAnyH_take (i := 20) (oi := _) (v := ?_) rfl (by kernel_rfl) (by kernel_rfl) (by kernel_rfl) (fun _ _ _ h => h) (Or.inl ⟨by rfl, ?_⟩) hHeld ?_
  rotate_left
  · intro w hSw
    go_simp
    try with_reducible rfl
  try simp only [List.getElem_toArray, List.getElem_cons_succ, List.getElem_cons_zero, Act.put, List.setIfInBounds_toArray, List.set_cons_zero, List.set_cons_succ]
  refine wpAnyH_done (by kernel_rfl) ?_ _
  go_wp2
  go_ret
  exact ⟨rfl, HB5.out⟩
end Go.Proofs.YtmgpbcpggnlkkaaGreatDoor
namespace Go.Proofs.YtmgpbcpggnlkkaaGreatDoor.Pr
open Go.RowKit Go.Proofs.YtmgpbcpggnlkkaaGreatDoorW.PrintWords Go.Proofs.YtmgpbcpggnlkkaaGreatDoorW.PrintLast Go.Proofs.YtmgpbcpggnlkkaaGreatDoorW.PrintMore
set_option linter.unusedVariables false
def stowagelaw27_awake.f : Option Bool := some true
end Go.Proofs.YtmgpbcpggnlkkaaGreatDoor.Pr
end
section
/- The reference of chapter 27: Read answers as readP says. -/
namespace Go.Proofs.YtmgpbcpggnlkkaaGreatDoor
open Go.RowKit Go.Lib Go.Proofs.YtmgpbcpggnlkkaaGreatDoorW.PrintWords Go.Proofs.YtmgpbcpggnlkkaaGreatDoorW.PrintLast Go.Proofs.YtmgpbcpggnlkkaaGreatDoorW.PrintMore
set_option linter.unusedVariables false
set_option linter.unusedSimpArgs false
theorem rd_map (L : List Bs) (i : Nat) (h : i < L.length) : rdOf ByteArray.empty (L.map BA) (i : Int) = BA L[i] := by
  unfold rdOf
  rw [Int.toNat_natCast]
  simp [h]
theorem afterP_len (s sub : Bs) : (afterP s sub).1.length ≤ s.length ∧ (afterP s sub).2.1.length ≤ s.length := by
  unfold afterP
  split
  · simp
  · simp only [List.length_take, List.length_drop]
    omega
abbrev err4 : Option (Int × List SPair × List Int × Int × Int) := some (0, [], [], 0, 4)
theorem j2_true (k : Nat) (b : List Int) (t : ByteArray) (n st : Int) (hs : List SPair) (hk : 1 ≤ k) : Pr.stowageref27_Read.j2 k b t n true st hs = err4 := by
  obtain ⟨k, rfl⟩ : ∃ n, k = n + 1 := ⟨k - 1, by omega⟩
  simp only [Pr.stowageref27_Read.j2]
  rw [if_pos trivial]
theorem back_pairs (hs : List (Bs × Bs)) : (hs.map pairS).map pairL = hs := by
  rw [List.map_map]
  conv => rhs; rw [← List.map_id hs]
  apply List.map_congr_left
  intro p _
  exact pair_back p
/-- What is no head is refused. -/
theorem rread_bad (b t : Bs) (L : List Bs) (st : Int) (hL : ∀ l ∈ L, l.length ≤ 6100) (hLl : L.length ≤ 6100) (hno : parseP t = none) : ∀ (d k i : Nat) (acc : List SPair), i + d + 1 = L.length → d + 500000 ≤ k → acc.length ≤ i → (∀ p ∈ acc, p.f0.size ≤ 6100 ∧ p.f1.size ≤ 6100) →
    Pr.stowageref27_Read.l0 k (Pr.numsL b) (BA t) (L.map BA) (i : Int) st acc = err4 := by
  intro d
  induction d with
  | zero =>
    intro k i acc hi hk ha hsz
    obtain ⟨k, rfl⟩ : ∃ n, k = n + 1 := ⟨k - 1, by omega⟩
    have hil : i < L.length := by omega
    have hle := hL L[i] (List.getElem_mem hil)
    simp only [Pr.stowageref27_Read.l0]
    rw [List.length_map, wup i L.length (by omega) (by omega), if_neg (by omega), wdown L.length L.length (Nat.le_refl _) (by omega) (by omega), if_pos (by omega), if_pos (by omega), rd_map L (L.length - 1) (by omega)]
    have hle2 := hL (L[L.length - 1]'(by omega)) (List.getElem_mem (by omega))
    have e1 : (⟨#[99, 111, 110, 116, 101, 110, 116, 45, 108, 101, 110, 103, 116, 104, 58, 32]⟩ : ByteArray) = BA (cl14 ++ [58, 32]) := rfl
    rw [e1, after_f _ _ (by omega) (by decide) (by decide) k (by omega), Option.bind_some]
    unfold afterB
    dsimp only
    rw [number_f _ k (by omega), Option.bind_some]
    obtain ⟨v, hv⟩ : ∃ v, numP (afterP (L[L.length - 1]'(by omega)) (cl14 ++ [58, 32])).2.1 = v := ⟨_, rfl⟩
    rw [hv]
    by_cases hok : (afterP (L[L.length - 1]'(by omega)) (cl14 ++ [58, 32])).2.2 = true
    case neg => rw [if_neg hok, j2_true k _ _ _ _ _ (by omega)]
    rw [if_pos hok]
    by_cases hneg : v < 0
    case pos => rw [if_pos hneg, j2_true k _ _ _ _ _ (by omega)]
    rw [if_neg hneg, rwrong_f st acc [] v (by omega) (fun p hp => by have := hsz p hp; omega) k (by omega), Option.bind_some]
    by_cases hw : wrongL st (acc.map pairL) = 0
    case neg => rw [if_neg hw, if_neg hw, j2_true k _ _ _ _ _ (by omega)]
    rw [if_pos hw]
    by_cases hbig : v > 1048576
    case pos => rw [if_pos hbig, if_neg (by decide), j2_true k _ _ _ _ _ (by omega)]
    rw [if_neg hbig, if_pos rfl]
    obtain ⟨n, rfl⟩ : ∃ n : Nat, v = n := ⟨v.toNat, by omega⟩
    obtain ⟨hst, hl32, hmay⟩ := wrongL_zero hw
    rw [List.length_map] at hl32
    have hsz2 : ∀ p ∈ acc, p.f0.size ≤ 2000 ∧ p.f1.size ≤ 2000 := by
      intro p hp
      have hm := hmay (pairL p) (List.mem_map_of_mem hp)
      unfold mayP pairL at hm
      simp only [Bool.and_eq_true, decide_eq_true_eq] at hm
      rw [bs_len, bs_len]
      omega
    rw [rhead_f st acc [] n hst (by omega) (by omega) hsz2 k (by omega), Option.bind_some, ba_toList, ba_toList]
    by_cases hh : headL st (acc.map pairL) n = t
    · have hv : ValidH st (acc.map pairL) n := ⟨hst, by rw [List.length_map]; exact hl32, hmay, by omega⟩
      have := parseP_head hv
      rw [hh, hno] at this
      cases this
    · rw [show (headL st (acc.map pairL) n != t) = true from bne_iff_ne.2 hh, j2_true k _ _ _ _ _ (by omega)]
  | succ d ih =>
    intro k i acc hi hk ha hsz
    obtain ⟨k, rfl⟩ : ∃ n, k = n + 1 := ⟨k - 1, by omega⟩
    have hil : i < L.length := by omega
    have hle := hL L[i] (List.getElem_mem hil)
    simp only [Pr.stowageref27_Read.l0]
    have e1 : (⟨#[58, 32]⟩ : ByteArray) = BA [58, 32] := rfl
    rw [List.length_map, wup i L.length (by omega) (by omega), if_pos (by omega), if_pos (by omega), if_pos (by omega), rd_map L i hil, e1, after_f _ _ (by omega) (by decide) (by decide) k (by omega), Option.bind_some]
    unfold afterB
    dsimp only
    by_cases hok : (afterP L[i] [58, 32]).2.2 = true
    · have hal := afterP_len L[i] [58, 32]
      rw [if_pos hok, if_pos (by omega)]
      refine ih k (i + 1) _ (by omega) (by omega) (by simp; omega) (fun p hp => ?_)
      rcases List.mem_append.1 hp with hp | hp
      · exact hsz p hp
      · obtain rfl : p = ⟨BA (afterP L[i] [58, 32]).1, BA (afterP L[i] [58, 32]).2.1⟩ := by simpa using hp
        show (BA _).size ≤ 6100 ∧ (BA _).size ≤ 6100
        rw [ba_size, ba_size]
        omega
    · rw [if_neg hok]
theorem pre_index (sub r : Bs) : index (sub ++ r) sub = ((0 : Nat) : Int) := by
  refine index_first (Nat.zero_le _) ?_ (fun j hj => absurd hj (Nat.not_lt_zero j))
  unfold occAt
  rw [List.drop_zero, List.isPrefixOf_iff_prefix]
  exact List.prefix_append _ _
theorem after_hdr {p : Bs × Bs} (h : mayP p = true) : afterP (hdr p) [58, 32] = (p.1, p.2, true) := by
  obtain ⟨h1, _, _⟩ := name_ne h
  have hi : index (hdr p) [58, 32] = ((p.1.length : Nat) : Int) := by
    unfold hdr
    rw [List.append_assoc]
    exact idx_first 58 [32] p.1 p.2 (fun c hc => (h1 c hc).1)
  unfold afterP
  rw [hi, if_neg (by omega), Int.toNat_natCast]
  unfold hdr
  rw [List.append_assoc, List.take_left, ← List.append_assoc]
  have : (p.1 ++ [58, 32] : Bs).length = p.1.length + ([58, 32] : Bs).length := List.length_append
  rw [← this, List.drop_left]
theorem after_lineN (n : Nat) : afterP (lineN n) (cl14 ++ [58, 32]) = ([], decDigits n, true) := by
  unfold lineN
  have hi := pre_index (cl14 ++ [58, 32]) (decDigits n)
  unfold afterP
  rw [hi, if_neg (by omega), Int.toNat_natCast, List.take_zero, Nat.zero_add, List.drop_left]
theorem take_numsZ (b : Bs) (n : Nat) : (Pr.numsL b).take n = Pr.numsL (b.take n) := by unfold Pr.numsL; rw [List.map_take]
theorem drop_numsZ (b : Bs) (n : Nat) : (Pr.numsL b).drop n = Pr.numsL (b.drop n) := by unfold Pr.numsL; rw [List.map_drop]
def endP (b : Bs) (tl n : Nat) (st : Int) (hs : List (Bs × Bs)) : Option (Int × List SPair × List Int × Int × Int) :=
  if b.length < tl + n then some (0, [], [], 0, 9) else some (st, hs.map pairS, Pr.numsL ((b.drop tl).take n), ((tl + n : Nat) : Int), 0)
theorem j2_false (k : Nat) (b t : Bs) (n : Nat) (st : Int) (hs : List (Bs × Bs)) (hk : 1 ≤ k) (hb : b.length ≤ 6000) (ht : t.length ≤ b.length) (hn : n ≤ 1048576) :
    Pr.stowageref27_Read.j2 k (Pr.numsL b) (BA t) (n : Int) false st (hs.map pairS) = endP b t.length n st hs := by
  obtain ⟨k, rfl⟩ : ∃ n, k = n + 1 := ⟨k - 1, by omega⟩
  simp only [Pr.stowageref27_Read.j2]
  unfold endP
  have e1 : wrap64 (((Pr.numsL b).length : Int) - ((BA t).size : Int)) = ((b.length - t.length : Nat) : Int) := by
    rw [nums_len, ba_size]
    unfold wrap64
    omega
  rw [if_neg (by decide), e1]
  by_cases h : b.length < t.length + n
  · rw [if_pos (by omega), if_pos h]
  · rw [if_neg (by omega), if_neg h, Option.bind_some, nums_len, ba_size, wadd t.length n 1000000000 (by omega) (Nat.le_refl _) (by omega), if_pos (by omega), if_pos (by omega), if_pos (by omega), Int.toNat_natCast, Int.toNat_natCast, take_numsZ, drop_numsZ, List.nil_append]
    rw [if_pos (by rw [nums_len, List.length_drop, List.length_take]; simp; omega)]
    have hd : (b.take (t.length + n)).drop t.length = (b.drop t.length).take n := by rw [List.drop_take]; congr 1; omega
    rw [hd]
theorem rread_good (b : Bs) (st : Int) (hs : List (Bs × Bs)) (n : Nat) (hv : ValidH st hs n) (hb : b.length ≤ 6000) (ht : (headL st hs n).length ≤ b.length) : ∀ (d k j : Nat), j + d = hs.length → d + 500000 ≤ k →
    Pr.stowageref27_Read.l0 k (Pr.numsL b) (BA (headL st hs n)) ((hLines st hs n).map BA) ((j + 1 : Nat) : Int) st ((hs.take j).map pairS) = endP b (headL st hs n).length n st hs := by
  have hLl : (hLines st hs n).length = hs.length + 2 := by unfold hLines; simp
  have h32 := hv.len
  intro d
  induction d with
  | zero =>
    intro k j hj hk
    obtain ⟨k, rfl⟩ : ∃ n, k = n + 1 := ⟨k - 1, by omega⟩
    simp only [Pr.stowageref27_Read.l0]
    have hlast : (hLines st hs n)[hs.length + 1]'(by omega) = lineN n := by
      unfold hLines
      rw [List.getElem_cons_succ, List.getElem_append_right (by simp)]
      simp
    rw [List.length_map, hLl, wup (j + 1) 100 (by omega) (by omega), if_neg (by omega), wdown (hs.length + 2) 100 (by omega) (by omega) (by omega), if_pos (by omega), if_pos (by omega), show hs.length + 2 - 1 = hs.length + 1 by omega, rd_map (hLines st hs n) (hs.length + 1) (by omega), hlast]
    have hdl := dec_size n (by have := hv.n; omega)
    have e1 : (⟨#[99, 111, 110, 116, 101, 110, 116, 45, 108, 101, 110, 103, 116, 104, 58, 32]⟩ : ByteArray) = BA (cl14 ++ [58, 32]) := rfl
    have hll : (lineN n).length ≤ 40 := by unfold lineN; simp [cl14]; omega
    rw [e1, after_f _ _ (by omega) (by decide) (by decide) k (by omega), Option.bind_some, after_lineN]
    unfold afterB
    dsimp only
    rw [number_f _ k (by omega), numP_dec n hv.n, Option.bind_some, if_pos rfl, if_neg (by omega)]
    have htk : hs.take j = hs := List.take_of_length_le (by omega)
    rw [htk]
    have hsz : ∀ p ∈ hs.map pairS, p.f0.size ≤ 2000 ∧ p.f1.size ≤ 2000 := by
      intro p hp
      obtain ⟨q, hq, rfl⟩ := List.mem_map.1 hp
      have hm := hv.may q hq
      unfold mayP at hm
      simp only [Bool.and_eq_true, decide_eq_true_eq] at hm
      show (BA q.1).size ≤ 2000 ∧ (BA q.2).size ≤ 2000
      rw [ba_size, ba_size]
      omega
    have hnn := hv.n
    rw [rwrong_f st (hs.map pairS) [] (n : Int) (by rw [List.length_map]; omega) (fun p hp => by have := hsz p hp; omega) k (by rw [List.length_map]; omega), Option.bind_some, back_pairs, if_pos (wrongL_ok hv), if_neg (show ¬ ((n : Int) > 1048576) by omega), if_pos rfl, rhead_f st (hs.map pairS) [] n hv.st (by rw [List.length_map]; omega) hv.n hsz k (by rw [List.length_map]; omega), Option.bind_some, back_pairs, ba_toList, show (headL st hs n != headL st hs n) = false by simp]
    exact j2_false k b (headL st hs n) n st hs (by omega) hb ht hv.n
  | succ d ih =>
    intro k j hj hk
    obtain ⟨k, rfl⟩ : ∃ n, k = n + 1 := ⟨k - 1, by omega⟩
    have hjl : j < hs.length := by omega
    simp only [Pr.stowageref27_Read.l0]
    have hjm : (hLines st hs n)[j + 1]'(by omega) = hdr hs[j] := by
      unfold hLines
      rw [List.getElem_cons_succ, List.getElem_append_left (by simp; exact hjl)]
      simp
    have hm := hv.may hs[j] (List.getElem_mem hjl)
    have hm2 := hm
    unfold mayP at hm2
    simp only [Bool.and_eq_true, decide_eq_true_eq] at hm2
    have hlh : (hdr hs[j]).length ≤ 2000 := by unfold hdr; simp only [List.length_append, List.length_cons, List.length_nil]; omega
    have e1 : (⟨#[58, 32]⟩ : ByteArray) = BA [58, 32] := rfl
    rw [List.length_map, hLl, wup (j + 1) 100 (by omega) (by omega), if_pos (by omega), if_pos (by omega), if_pos (by omega), rd_map (hLines st hs n) (j + 1) (by omega), hjm, e1, after_f _ _ (by omega) (by decide) (by decide) k (by omega), Option.bind_some, after_hdr hm]
    unfold afterB
    dsimp only
    rw [if_pos rfl, if_pos (by rw [List.length_map, List.length_take]; omega)]
    have hacc : (hs.take j).map pairS ++ [(⟨BA hs[j].1, BA hs[j].2⟩ : SPair)] = (hs.take (j + 1)).map pairS := by
      rw [List.take_succ_eq_append_getElem hjl, List.map_append]
      rfl
    rw [hacc]
    exact ih k (j + 1) (by omega) (by omega)
theorem num_sts : ∀ st ∈ stsL, numP (itoa st) = st ∧ (line0 st).length ≥ 13 ∧ ((line0 st).take 12).drop 9 = itoa st := by decide +kernel
theorem str_nums (b : Bs) : strOfNums (Pr.numsL b) = BA b := by
  have h : Lib.bytesOf (Pr.numsL b) = b := nums_of b
  unfold BA
  conv => rhs; rw [← h]
  rfl
def flatR (r : (Int × List (Bs × Bs) × Bs) × Int × Int) : Int × List SPair × List Int × Int × Int := (r.1.1, r.1.2.1.map pairS, Pr.numsL r.1.2.2, r.2.1, r.2.2)
theorem rread_f (b : Bs) (hb : b.length ≤ 6000) (k : Nat) (hk : 600000 ≤ k) : Pr.stowageref27_Read.f k (Pr.numsL b) = some (flatR (readP b)) := by
  unfold Pr.stowageref27_Read.f
  have e4 : (⟨#[13, 10, 13, 10]⟩ : ByteArray) = BA four := rfl
  have e2 : (⟨#[13, 10]⟩ : ByteArray) = BA crlf := rfl
  have h4 : four.length = 4 := rfl
  have h2 : crlf.length = 2 := rfl
  rw [str_nums, e4, e2, after_f b four (by omega) (by decide) (by decide) k (by omega), Option.bind_some]
  unfold afterB afterP readP
  by_cases hi : index b four < 0
  · rw [if_pos hi, if_pos hi]
    rfl
  · rw [if_neg hi, if_neg hi]
    dsimp only
    obtain ⟨i, hie, hil, hocc⟩ : ∃ i : Nat, index b four = i ∧ i ≤ b.length ∧ occAt b four i = true := by
      rcases index_spec b four with ⟨h, _⟩ | ⟨i, h1, h2, h3, _⟩
      · omega
      · exact ⟨i, h1, h2, h3⟩
    have hroom := index_room b four (by omega)
    rw [hie, Int.toNat_natCast]
    rw [hie] at hroom
    have htk : b.take i ++ four = b.take (i + 4) := by
      have hp := (isPre_take four (b.drop i)).1 hocc
      rw [List.take_add, ← hp.1, h4]
    have htl : (b.take i).length = i := by rw [List.length_take]; omega
    have htl4 : (b.take (i + 4)).length = i + 4 := by rw [List.length_take]; omega
    rw [if_pos rfl, ba_size, if_pos (by omega), if_pos (by omega), ba_app, ba_app, htk, lines_f _ (by rw [List.length_append]; omega) k (by rw [List.length_append]; omega), Option.bind_some]
    have hj0t : ∀ L : List ByteArray, Pr.stowageref27_Read.j0 k (Pr.numsL b) (BA (b.take (i + 4))) L true = err4 := fun L => by
      obtain ⟨k, rfl⟩ : ∃ n, k = n + 1 := ⟨k - 1, by omega⟩
      simp only [Pr.stowageref27_Read.j0]
      rw [if_pos trivial]
    have hll := lnsP_len (b.take i ++ crlf) 10 []
    rw [List.length_append, htl, h2] at hll
    cases hp : parseP (b.take (i + 4)) with
    | none =>
      show _ = err4
      obtain ⟨L, hL⟩ : ∃ L, lnsP 10 [] (b.take i ++ crlf) = L := ⟨_, rfl⟩
      rw [hL] at hll ⊢
      have hLs : ∀ l ∈ L, l.length ≤ 6100 := fun l hl => by
        have := hll.2 l hl
        simp at this
        omega
      rw [List.length_map]
      by_cases hl2 : L.length < 2
      · rw [if_pos (by omega), hj0t]
      · rw [if_neg (by omega), if_pos (by omega)]
        have hr0 := rd_map L 0 (by omega)
        rw [show ((0 : Nat) : Int) = 0 from rfl] at hr0
        rw [hr0, ba_size]
        by_cases h13 : L[0].length < 13
        · rw [decide_eq_true (by omega), hj0t]
        · rw [decide_eq_false (by omega)]
          obtain ⟨k, rfl⟩ : ∃ n, k = n + 1 := ⟨k - 1, by omega⟩
          simp only [Pr.stowageref27_Read.j0]
          have hl0 := hLs L[0] (List.getElem_mem (by omega))
          rw [if_neg (by decide), List.length_map, if_pos (by omega), if_pos (by omega), hr0, ba_size, if_pos (by omega), ba_ext, number_f _ k (by omega), Option.bind_some]
          have := rread_bad b (b.take (i + 4)) L (numP ((L[0].take 12).drop 9)) hLs (by omega) hp (L.length - 2) k 1 [] (by omega) (by omega) (by simp) (by simp)
          exact this
    | some r =>
      obtain ⟨st, hs, n⟩ := r
      obtain ⟨hv, he⟩ := parseP_some hp
      have hjc : b.take i = joinC (hLines st hs n) := by
        have h := headL_join st hs n
        rw [he, ← htk] at h
        exact List.append_cancel_right h
      have hends : b.take i ++ crlf = ends (hLines st hs n) := by
        rw [hjc, ends_join _ (by unfold hLines; simp)]
      rw [hends, lnsP_ends _ (lines_no hv)]
      have hLl : (hLines st hs n).length = hs.length + 2 := by unfold hLines; simp
      obtain ⟨n1, n2, n3⟩ := num_sts st (wordsL_mem hv.st)
      have h0 : (hLines st hs n)[0]'(by omega) = line0 st := rfl
      rw [List.length_map, hLl, if_neg (by omega), if_pos (by omega)]
      have hr0 := rd_map (hLines st hs n) 0 (by omega)
      rw [show ((0 : Nat) : Int) = 0 from rfl, h0] at hr0
      rw [hr0, ba_size, decide_eq_false (by omega)]
      obtain ⟨k, rfl⟩ : ∃ n, k = n + 1 := ⟨k - 1, by omega⟩
      simp only [Pr.stowageref27_Read.j0]
      rw [if_neg (by decide), List.length_map, hLl, if_pos (by omega), if_pos (by omega), hr0, ba_size, if_pos (by omega), ba_ext, n3, number_f _ k (by omega), n1, Option.bind_some]
      have hg := rread_good b st hs n hv hb (by rw [he, htl4]; omega) hs.length k 0 (by omega) (by have := hv.len; omega)
      rw [he] at hg
      rw [show (1 : Int) = ((0 + 1 : Nat) : Int) from rfl]
      refine hg.trans ?_
      unfold endP
      rw [htl4]
      by_cases hend : b.length < i + 4 + n
      · rw [if_pos hend, if_pos (by omega)]
        rfl
      · rw [if_neg hend, if_neg (by omega)]
        rfl
end Go.Proofs.YtmgpbcpggnlkkaaGreatDoor
end
