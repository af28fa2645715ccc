/- Texts of this proof, put together: Kn20. -/
import Derived.Test.YtdaokkajbooiaaaProg
import Derived.Test.YtdaokkajbooiaaaMListingPagesm
import Derived.Deep.RegionHeld3
section
/- Listing: the statement ListingKnown: its walk. -/
namespace Go.Proofs.Ytdaokkajbooiaaa
open Go.RowKit
set_option linter.unusedVariables false
set_option linter.unusedSimpArgs false
def pgC : Pg := ⟨[itm ([97] : List UInt8) ([118, 49] : List UInt8) false, itm ([98, 47, 99] : List UInt8) ([118, 50] : List UInt8) false, itm ([98, 47, 100] : List UInt8) ([118, 51] : List UInt8) false], false, [], []⟩
def pgD : Pg := ⟨[itm ([98, 47, 99] : List UInt8) ([118, 50] : List UInt8) false, itm ([98, 47, 100] : List UInt8) ([118, 51] : List UInt8) false], false, [], []⟩
def pgE : Pg := ⟨[itm ([98, 47, 100] : List UInt8) ([118, 51] : List UInt8) true], true, ([98, 47, 100] : List UInt8), ([118, 51] : List UInt8)⟩
def pgF : Pg := ⟨[itm ([98, 47, 100] : List UInt8) ([118, 52] : List UInt8) false, ⟨([101] : List UInt8), false, ⟨([109, 53] : List UInt8), 0, true, 0, []⟩, true⟩, itm ([101] : List UInt8) ([118, 54] : List UInt8) false], false, [], []⟩
theorem known_C : pageV false fourE [] [] [] [] 9 = (pgC, 0) := by decide +kernel
theorem known_D : pageV false fourE ([98, 47] : List UInt8) ([47] : List UInt8) [] [] 9 = (pgD, 0) := by decide +kernel
theorem known_E : pageV true fourE ([98, 47, 100] : List UInt8) [] [] [] 1 = (pgE, 0) := by decide +kernel
theorem known_F : pageV true fourE [] [] ([98, 47, 100] : List UInt8) ([118, 51] : List UInt8) 9 = (pgF, 0) := by decide +kernel
theorem known_G : pageV false fourE [] [] [] [] 0 = (pg0, 5) := by decide +kernel
theorem known_H : checkV [⟨([97] : List UInt8), [ver ([120] : List UInt8)]⟩, ⟨([97] : List UInt8), [ver ([121] : List UInt8)]⟩] = 2 := by decide +kernel
theorem yields_row {P : Program} {ops : Array Oper} {S : World → Prop} {o : Oper} {a : Act} (hw : Region.wanted o (yielded ops a.tmps) = true) (ty : TypeId) (x : Operand) (ho : o.op = .load ty x)
    (g : Nat) (hx : a.eval x = .pointer (some ⟨g, 0, none⟩)) (t : TypeId) (cs : Array Value) (fr : Nat × Nat) (d : TypeDesc) (hg : ∀ w, S w → w.heap[g]? = some (.cells cs t fr))
    (hu : P.underlying ty = some d) (hd : (match d with | .struct _ | .array _ _ => true | _ => false) = true) (hi : (P.info? ty).map (·.size) = some cs.size) : YieldsIf P ops S o (.agg cs) a := by
  refine .inl ⟨hw, fun w hs => ?_⟩
  unfold execOp
  simp only [ho, hx, Instr.loadAt, Instr.sureAddr, Sem.run_bind, Sem.run_pure, Result.andThen_ok, run_loadVar_row w g t ty cs fr d (hg w hs) hu hd hi]
structure SP (w : World) (g1 : Nat) (c1 : Array Value) (e1 : Pg) (g2 : Nat) (c2 : Array Value) (e2 : Pg) (W : World) : Prop where
  r1 : W.heap[g1]? = some (.cells c1 28 (0, 0))
  r2 : W.heap[g2]? = some (.cells c2 28 (0, 0))
  p1 : PgSrc W (.agg c1) e1
  p2 : PgSrc W (.agg c2) e2
  b : Below w.heap.size w W
theorem SP.up {w : World} {g1 : Nat} {c1 : Array Value} {e1 : Pg} {g2 : Nat} {c2 : Array Value} {e2 : Pg} {A B : World} (h : SP w g1 c1 e1 g2 c2 e2 A) (hb : Below A.heap.size A B) : SP w g1 c1 e1 g2 c2 e2 B :=
  ⟨(hb.block _ (Array.getElem?_eq_some_iff.1 h.r1).1).trans h.r1, (hb.block _ (Array.getElem?_eq_some_iff.1 h.r2).1).trans h.r2, h.p1.block hb, h.p2.block hb, bt h.b hb⟩
theorem SP.drew {w : World} {g1 : Nat} {c1 : Array Value} {e1 : Pg} {g2 : Nat} {c2 : Array Value} {e2 : Pg} {A : World} (h : SP w g1 c1 e1 g2 c2 e2 A) : SP w g1 c1 e1 g2 c2 e2 A.drew := h.up (Below.refl _ A).drew
theorem ents_two {w20 w21 : World} (z : Below (w20.alloc (.cells #[.string (BA ([120] : List UInt8)), .int .i64 0, .bool false, .int .i64 0, .string ⟨#[]⟩] 37)).heap.size (w20.alloc (.cells #[.string (BA ([120] : List UInt8)), .int .i64 0, .bool false, .int .i64 0, .string ⟨#[]⟩] 37)) w21) : EntsAt ((w21.alloc (.cells #[.string (BA ([121] : List UInt8)), .int .i64 0, .bool false, .int .i64 0, .string ⟨#[]⟩] 37)).alloc (.cells #[.string ⟨#[97]⟩, .slice (some ⟨w20.heap.size, 0, none⟩) 1 1, .string ⟨#[97]⟩, .slice (some ⟨w21.heap.size, 0, none⟩) 1 1] 47)) (.slice (some ⟨w21.heap.size + 1, 0, none⟩) 2 2) [⟨([97] : List UInt8), [ver ([120] : List UInt8)]⟩, ⟨([97] : List UInt8), [ver ([121] : List UInt8)]⟩] := by
  have B2 := ba (w21.alloc (.cells #[.string (BA ([121] : List UInt8)), .int .i64 0, .bool false, .int .i64 0, .string ⟨#[]⟩] 37)) (.cells #[.string ⟨#[97]⟩, .slice (some ⟨w20.heap.size, 0, none⟩) 1 1, .string ⟨#[97]⟩, .slice (some ⟨w21.heap.size, 0, none⟩) 1 1] 47)
  have B1 := bt z (bt (ba w21 (.cells #[.string (BA ([121] : List UInt8)), .int .i64 0, .bool false, .int .i64 0, .string ⟨#[]⟩] 37)) B2)
  have s1 : SrcR _ (.slice (some ⟨w20.heap.size, 0, none⟩) 1 1) 5 [verC (ver ([120] : List UInt8))] := (srcR_row (t := 37) (rows := [verC (ver ([120] : List UInt8))]) (heap_alloc_new w20 _) (by simp [verC])).block B1
  have s2 : SrcR _ (.slice (some ⟨w21.heap.size, 0, none⟩) 1 1) 5 [verC (ver ([121] : List UInt8))] := (srcR_row (t := 37) (rows := [verC (ver ([121] : List UInt8))]) (heap_alloc_new w21 _) (by simp [verC])).block B2
  refine ⟨[.slice (some ⟨w20.heap.size, 0, none⟩) 1 1, .slice (some ⟨w21.heap.size, 0, none⟩) 1 1], rfl, ?_, fun i e x he hx => ?_⟩
  · exact srcR_row (rows := [[.string (BA ([97] : List UInt8)), .slice (some ⟨w20.heap.size, 0, none⟩) 1 1], [.string (BA ([97] : List UInt8)), .slice (some ⟨w21.heap.size, 0, none⟩) 1 1]]) (by have := heap_alloc_new (w21.alloc (.cells #[.string (BA ([121] : List UInt8)), .int .i64 0, .bool false, .int .i64 0, .string ⟨#[]⟩] 37)) (.cells #[.string ⟨#[97]⟩, .slice (some ⟨w20.heap.size, 0, none⟩) 1 1, .string ⟨#[97]⟩, .slice (some ⟨w21.heap.size, 0, none⟩) 1 1] 47); rw [World.size_alloc] at this; exact this) (by simp)
  · rcases i with _ | _ | i
    · simp at he hx; subst he hx; exact s1
    · simp at he hx; subst he hx; exact s2
    · simp at he
theorem versK (p d after version : ByteArray) (most : Int) (g : Pg) {m0 : Int} (hps : p.size ≤ 1000000) (hds : d.size ≤ 1000000) (has : after.size ≤ 1000000) (hvs : version.size ≤ 1000000) (hK : pageV true fourE p.data.toList d.data.toList after.data.toList version.data.toList most = (g, 0)) (W : World) (v : Value) (hE : EntsAt W v fourE) (hm : W.cell? ⟨0, 0, none⟩ = some (.int .i64 m0)) :
    Calls Try.prog 14 #[v, .string p, .string d, .string after, .string version, .int .i64 most] W fun e w' => ∃ pv, e = .returned (.tuple #[pv, .int .i64 0]) ∧ PageAt W.heap.size w' pv g ∧ Below W.heap.size W w' := by
  have h := versions_any p d after version most fourE v W hE (by decide) (by decide) ⟨m0, hm⟩ hps hds has hvs
  rw [hK] at h
  exact h
theorem keysG {m0 : Int} (W : World) (v : Value) (hE : EntsAt W v fourE) (hm : W.cell? ⟨0, 0, none⟩ = some (.int .i64 m0)) :
    Calls Try.prog 12 #[v, .string ⟨#[]⟩, .string ⟨#[]⟩, .string ⟨#[]⟩, .int .i64 0] W fun e w' => ∃ pv, e = .returned (.tuple #[pv, .int .i64 5]) ∧ PageAt W.heap.size w' pv pg0 ∧ Below W.heap.size W w' := by
  have h := keys_any ⟨#[]⟩ ⟨#[]⟩ ⟨#[]⟩ 0 fourE v W hE (by decide) (by decide) ⟨m0, hm⟩ (by decide) (by decide) (by decide)
  have hk : pageV false fourE (⟨#[]⟩ : ByteArray).data.toList (⟨#[]⟩ : ByteArray).data.toList (⟨#[]⟩ : ByteArray).data.toList [] 0 = (pg0, 5) := known_G
  rw [hk] at h
  exact h
set_option maxRecDepth 10000 in
set_option maxHeartbeats 4000000 in
theorem known_any (w : World) (hMax : ∃ m, w.cell? ⟨0, 0, none⟩ = some (.int .i64 m)) : Calls Try.prog 4 #[] w fun e w' => e = .returned (.bool true) ∧ Below w.heap.size w w' := by
  obtain ⟨m0, hm0⟩ := hMax
  have HM := Lib.hid (cell_lt hm0)
  have HM0 := Lib.hid hm0
  clear hm0
  have hMB : ∀ W, Below w.heap.size w W → W.cell? ⟨0, 0, none⟩ = some (.int .i64 m0) := fun W hb => (hb.cell (p := ⟨0, 0, none⟩) HM.out).trans HM0.out
  have hva := fun W => v_any ([118, 49] : List UInt8) W
  have hvb := fun W => v_any ([118, 50] : List UInt8) W
  have hvc := fun W => v_any ([118, 51] : List UInt8) W
  have hvd := fun W => v_any ([118, 50] : List UInt8) W
  have hve := fun W => v_any ([118, 51] : List UInt8) W
  have hK1 := fun W want (hw : PgSrc W want pgC) (hm : W.cell? ⟨0, 0, none⟩ = some (.int .i64 m0)) => keysK_true ⟨#[]⟩ ⟨#[]⟩ ⟨#[]⟩ 9 want pgC W hw (by decide) hm (by decide) (by decide) (by decide) known_C
  have hK2 := fun W want (hw : PgSrc W want pgD) (hm : W.cell? ⟨0, 0, none⟩ = some (.int .i64 m0)) => keysK_true (BA ([98, 47] : List UInt8)) (BA ([47] : List UInt8)) ⟨#[]⟩ 9 want pgD W hw (by decide) hm (by decide) (by decide) (by decide) known_D
  have hF1 := fun W => four_any W
  have hF2 := fun W => four_any W
  have hF3 := fun W => four_any W
  have hE1 := versK (BA ([98, 47, 100] : List UInt8)) ⟨#[]⟩ ⟨#[]⟩ ⟨#[]⟩ 1 pgE (m0 := m0) (by decide) (by decide) (by decide) (by decide) known_E
  have hE2 := versK ⟨#[]⟩ ⟨#[]⟩ (BA ([98, 47, 100] : List UInt8)) (BA ([118, 51] : List UInt8)) 9 pgF (m0 := m0) (by decide) (by decide) (by decide) (by decide) known_F
  have hG := keysG (m0 := m0)
  go_enter Try.func4, Try.ntmps4
  go_wp2_with first | (go_at_call 22; refine (hva _).mono ?_; clear hva; rintro e w1 ⟨rfl, b1⟩) | (go_at_call 22; refine (hvb _).mono ?_; clear hvb; rintro e w2 ⟨rfl, b2⟩; replace b2 := bt b1 b2) | (go_at_call 22; refine (hvc _).mono ?_; clear hvc; rintro e w3 ⟨rfl, b3⟩; replace b3 := bt b2 b3; replace b3 := bt b3 (ba w3 (.cells (itmC (itm ([97] : List UInt8) ([118, 49] : List UInt8) false) ++ itmC (itm ([98, 47, 99] : List UInt8) ([118, 50] : List UInt8) false) ++ itmC (itm ([98, 47, 100] : List UInt8) ([118, 51] : List UInt8) false)).toArray 39))) | (go_at_call 21; refine (hK1 _ _ ⟨_, rfl, srcR_row (rows := [itmC (itm ([97] : List UInt8) ([118, 49] : List UInt8) false), itmC (itm ([98, 47, 99] : List UInt8) ([118, 50] : List UInt8) false), itmC (itm ([98, 47, 100] : List UInt8) ([118, 51] : List UInt8) false)]) (heap_alloc_new w3 _) (by simp [itmC])⟩ (hMB _ b3)).mono ?_; clear hK1; rintro e w4 ⟨rfl, b4⟩; replace b4 := bt b3 b4) | (go_at_call 22; refine (hvd _).mono ?_; clear hvd; rintro e w5 ⟨rfl, b5⟩; replace b5 := bt b4 b5) | (go_at_call 22; refine (hve _).mono ?_; clear hve; rintro e w6 ⟨rfl, b6⟩; replace b6 := bt b5 b6; replace b6 := bt b6 (ba w6 (.cells (itmC (itm ([98, 47, 99] : List UInt8) ([118, 50] : List UInt8) false) ++ itmC (itm ([98, 47, 100] : List UInt8) ([118, 51] : List UInt8) false)).toArray 39))) | (go_at_call 21; refine (hK2 _ _ ⟨_, rfl, srcR_row (rows := [itmC (itm ([98, 47, 99] : List UInt8) ([118, 50] : List UInt8) false), itmC (itm ([98, 47, 100] : List UInt8) ([118, 51] : List UInt8) false)]) (heap_alloc_new w6 _) (by simp [itmC])⟩ (hMB _ b6)).mono ?_; clear hK2; rintro e w7 ⟨rfl, b7⟩; replace b7 := bt b6 b7) | (go_at_call 23; refine (hF1 _).mono ?_; clear hF1; rintro e w8 ⟨v1, rfl, q1, b8⟩; replace b8 := bt b7 b8; obtain ⟨A1, c1, rfl⟩ := q1.form) | (go_at_call 14; refine (hE1 _ _ q1 (hMB _ b8)).mono ?_; clear hE1; rintro e w9 ⟨pv, rfl, ⟨sl, rfl, o1⟩, b9⟩; replace b9 := bt b8 b9; obtain ⟨A2, c2, rfl⟩ := own_form o1) | (go_at_call 23; refine (hF2 _).mono ?_; clear hF2; rintro e w10 ⟨v2, rfl, q2, z10⟩; have b10 := z10; replace b10 := bt (bt b9 (ba w9 (.cells #[.slice A2 pgE.items.length c2, .bool pgE.more, .string (BA pgE.next), .string (BA pgE.version)] 28))) b10; obtain ⟨A3, c3, rfl⟩ := q2.form) | (go_at_call 14; refine (hE2 _ _ q2 (hMB _ b10)).mono ?_; clear hE2; rintro e w11 ⟨pv, rfl, ⟨sl, rfl, o2⟩, z11⟩; have b11 := bt b10 z11; obtain ⟨A4, c4, rfl⟩ := own_form o2) | (go_at_call 23; refine (hF3 _).mono ?_; clear hF3; rintro e w12 ⟨v3, rfl, q3, z12⟩; have b12 := bt (bt b11 (ba w11 (.cells #[.slice A4 pgF.items.length c4, .bool pgF.more, .string (BA pgF.next), .string (BA pgF.version)] 28))) z12; obtain ⟨A5, c5, rfl⟩ := q3.form) | (go_at_call 12; refine (hG _ _ q3 (hMB _ b12)).mono ?_; clear hG; rintro e w13 ⟨pv, rfl, ⟨sl, rfl, o3⟩, z13⟩; have b13 := bt b12 z13; obtain ⟨A6, c6, rfl⟩ := own_form o3)
  have hS : SP w w9.heap.size #[.slice A2 pgE.items.length c2, .bool pgE.more, .string (BA pgE.next), .string (BA pgE.version)] pgE w11.heap.size #[.slice A4 pgF.items.length c4, .bool pgF.more, .string (BA pgF.next), .string (BA pgF.version)] pgF (w13.alloc (.cells #[.slice A6 pg0.items.length c6, .bool pg0.more, .string (BA pg0.next), .string (BA pg0.version)] 28)) := by
    have u1 := bt (bt (bt (bt z10 z11) (ba w11 (.cells #[.slice A4 pgF.items.length c4, .bool pgF.more, .string (BA pgF.next), .string (BA pgF.version)] 28))) z12) (bt z13 (ba w13 (.cells #[.slice A6 pg0.items.length c6, .bool pg0.more, .string (BA pg0.next), .string (BA pg0.version)] 28)))
    have u2 := bt z12 (bt z13 (ba w13 (.cells #[.slice A6 pg0.items.length c6, .bool pg0.more, .string (BA pg0.next), .string (BA pg0.version)] 28)))
    exact ⟨(u1.block _ (by simp)).trans (heap_alloc_new w9 _), (u2.block _ (by simp)).trans (heap_alloc_new w11 _), (PageAt.src ⟨_, rfl, o1⟩).block (bt (ba w9 _) u1), (PageAt.src ⟨_, rfl, o2⟩).block (bt (ba w11 _) u2), bt b13 (ba w13 _)⟩
  obtain ⟨wD, hwD⟩ : ∃ W, w13.alloc (.cells #[.slice A6 pg0.items.length c6, .bool pg0.more, .string (BA pg0.next), .string (BA pg0.version)] 28) = W := ⟨_, rfl⟩
  rw [hwD] at hS ⊢
  clear hwD o1 o2 o3 z10 z11 z12 z13 q1 q2 q3 b1 b2 b3 b4 b5 b6 b7 b8 b9 b10 b11 b12 b13
  have hva := fun W => v_any ([118, 51] : List UInt8) W
  have hvb := fun W => v_any ([118, 52] : List UInt8) W
  have hvc := fun W => v_any ([118, 54] : List UInt8) W
  have hsE := fun W a b (ha : PgSrc W a pgE) (hb : PgSrc W b pgE) => samePage_any a b pgE pgE W ha hb (by decide) (by decide)
  have hsF := fun W a b (ha : PgSrc W a pgF) (hb : PgSrc W b pgF) => samePage_any a b pgF pgF W ha hb (by decide) (by decide)
  simp only [decide_true] at hsE hsF
  refine wp_region_noPanic ?_
  refine wp_region_held_drew (S := SP w w9.heap.size #[.slice A2 pgE.items.length c2, .bool pgE.more, .string (BA pgE.next), .string (BA pgE.version)] pgE w11.heap.size #[.slice A4 pgF.items.length c4, .bool pgF.more, .string (BA pgF.next), .string (BA pgF.version)] pgF) (by kernel_rfl) hS.drew (fun hHeld => ?_)
  have hS0 := hS.drew
  clear hS
  refine wpAnyH_take (i := 0) (oi := _) (v := ?_) rfl (by kernel_rfl) (by kernel_rfl) (by kernel_rfl) (fun _ _ _ h => h) (Or.inl ⟨by rfl, ?_⟩) hHeld ?_
  rotate_left
  · intro w hSw
    go_simp
    try with_reducible rfl
  try simp only [List.getElem_toArray, List.getElem_cons_succ, List.getElem_cons_zero, Act.put, List.setIfInBounds_toArray, List.set_cons_zero, List.set_cons_succ]
  refine wpAnyH_take (i := 1) (oi := _) (v := ?_) rfl (by kernel_rfl) (by kernel_rfl) (by kernel_rfl) (fun _ _ _ h => h) (Or.inl ⟨by rfl, ?_⟩) hHeld ?_
  rotate_left
  · intro w hSw
    go_simp
    try with_reducible rfl
  try simp only [List.getElem_toArray, List.getElem_cons_succ, List.getElem_cons_zero, Act.put, List.setIfInBounds_toArray, List.set_cons_zero, List.set_cons_succ]
  refine wpAnyH_take (i := 2) (oi := _) (v := ?_) rfl (by kernel_rfl) (by kernel_rfl) (by kernel_rfl) (fun _ _ _ h => h) (Or.inl ⟨by rfl, ?_⟩) hHeld ?_
  rotate_left
  · intro w hSw
    go_simp
    try with_reducible rfl
  try simp only [List.getElem_toArray, List.getElem_cons_succ, List.getElem_cons_zero, Act.put, List.setIfInBounds_toArray, List.set_cons_zero, List.set_cons_succ]
  refine wpAnyH_take (i := 3) (oi := _) (v := .agg #[.slice A2 pgE.items.length c2, .bool pgE.more, .string (BA pgE.next), .string (BA pgE.version)]) rfl (by kernel_rfl) (by kernel_rfl) (by kernel_rfl) (fun _ _ _ h => h) (yields_row (by rfl) 28 _ rfl w9.heap.size rfl 28 _ (0, 0) _ (fun w hs => hs.r1) Try.underlying28 rfl infoP) hHeld ?_
  try simp only [List.getElem_toArray, List.getElem_cons_succ, List.getElem_cons_zero, Act.put, List.setIfInBounds_toArray, List.set_cons_zero, List.set_cons_succ]
  refine wpAnyH_ready (rs := [4]) (by kernel_rfl) (by simp) ?_
  refine AllReadyH.cons (o := _) rfl (fun K hK => ?_) AllReadyH.nil
  go_simp
  refine (hva _).mono ?_
  rintro e w14 ⟨rfl, z14⟩
  have hS1 := hS0.up z14
  clear z14 hS0
  go_wp2_with fail
  refine hK.out _ _ hS1 (fun hHeld => ?_)
  clear hK K
  try simp only [List.getElem_toArray, List.getElem_cons_succ, List.getElem_cons_zero, Act.put, List.setIfInBounds_toArray, List.set_cons_zero, List.set_cons_succ]
  refine wpAnyH_take (i := 5) (oi := _) (v := ?_) rfl (by kernel_rfl) (by kernel_rfl) (by kernel_rfl) (fun _ _ _ h => h) (Or.inl ⟨by rfl, ?_⟩) hHeld ?_
  rotate_left
  · intro w hSw
    go_simp
    try with_reducible rfl
  try simp only [List.getElem_toArray, List.getElem_cons_succ, List.getElem_cons_zero, Act.put, List.setIfInBounds_toArray, List.set_cons_zero, List.set_cons_succ]
  refine wpAnyH_ready (rs := [6]) (by kernel_rfl) (by simp) ?_
  refine AllReadyH.cons (o := _) rfl (fun K hK => ?_) AllReadyH.nil
  go_simp
  refine hK.out _ _ (hS1.up (ba _ _)) (fun hHeld => ?_)
  clear hK K
  try simp only [List.getElem_toArray, List.getElem_cons_succ, List.getElem_cons_zero, Act.put, List.setIfInBounds_toArray, List.set_cons_zero, List.set_cons_succ]
  refine wpAnyH_take (i := 7) (oi := _) (v := ?_) rfl (by kernel_rfl) (by kernel_rfl) (by kernel_rfl) (fun _ _ _ h => h) (Or.inl ⟨by rfl, ?_⟩) hHeld ?_
  rotate_left
  · intro w hSw
    go_simp
    try with_reducible rfl
  try simp only [List.getElem_toArray, List.getElem_cons_succ, List.getElem_cons_zero, Act.put, List.setIfInBounds_toArray, List.set_cons_zero, List.set_cons_succ]
  refine wpAnyH_ready (rs := [8]) (by kernel_rfl) (by simp) ?_
  refine AllReadyH.cons (o := _) rfl (fun K hK => ?_) AllReadyH.nil
  go_simp
  refine (hsE _ _ _ (hS1.up (ba _ _)).p1 ⟨_, rfl, srcR_row (rows := [itmC (itm ([98, 47, 100] : List UInt8) ([118, 51] : List UInt8) true)]) (heap_alloc_new w14 _) (by simp [itmC])⟩).mono ?_
  rintro e w15 ⟨rfl, z15⟩
  have hS2 := hS1.up (bt (ba _ _) z15)
  clear z15 hS1
  go_wp2_with fail
  refine hK.out _ _ hS2 (fun hHeld => ?_)
  clear hK K
  try simp only [List.getElem_toArray, List.getElem_cons_succ, List.getElem_cons_zero, Act.put, List.setIfInBounds_toArray, List.set_cons_zero, List.set_cons_succ]
  refine wpAnyH_take (i := 9) (oi := _) (v := ?_) rfl (by kernel_rfl) (by kernel_rfl) (by kernel_rfl) (fun _ _ _ h => h) (Or.inl ⟨by rfl, ?_⟩) hHeld ?_
  rotate_left
  · intro w hSw
    go_simp
    try with_reducible rfl
  try simp only [List.getElem_toArray, List.getElem_cons_succ, List.getElem_cons_zero, Act.put, List.setIfInBounds_toArray, List.set_cons_zero, List.set_cons_succ]
  refine wpAnyH_take (i := 10) (oi := _) (v := ?_) rfl (by kernel_rfl) (by kernel_rfl) (by kernel_rfl) (fun _ _ _ h => h) (Or.inl ⟨by rfl, ?_⟩) hHeld ?_
  rotate_left
  · intro w hSw
    go_simp
    try with_reducible rfl
  try simp only [List.getElem_toArray, List.getElem_cons_succ, List.getElem_cons_zero, Act.put, List.setIfInBounds_toArray, List.set_cons_zero, List.set_cons_succ]
  refine wpAnyH_done (by kernel_rfl) ?_ _
  refine NoPanic.normal ?_
  clear hHeld
  go_wp2
  refine wp_region_noPanic ?_
  refine wp_region_held_drew (S := SP w w9.heap.size #[.slice A2 pgE.items.length c2, .bool pgE.more, .string (BA pgE.next), .string (BA pgE.version)] pgE w11.heap.size #[.slice A4 pgF.items.length c4, .bool pgF.more, .string (BA pgF.next), .string (BA pgF.version)] pgF) (by kernel_rfl) hS2.drew (fun hHeld => ?_)
  have hS3 := hS2.drew
  clear hS2
  refine wpAnyH_take (i := 0) (oi := _) (v := ?_) rfl (by kernel_rfl) (by kernel_rfl) (by kernel_rfl) (fun _ _ _ h => h) (Or.inl ⟨by rfl, ?_⟩) hHeld ?_
  rotate_left
  · intro w hSw
    go_simp
    try with_reducible rfl
  try simp only [List.getElem_toArray, List.getElem_cons_succ, List.getElem_cons_zero, Act.put, List.setIfInBounds_toArray, List.set_cons_zero, List.set_cons_succ]
  refine wpAnyH_take (i := 1) (oi := _) (v := ?_) rfl (by kernel_rfl) (by kernel_rfl) (by kernel_rfl) (fun _ _ _ h => h) (Or.inl ⟨by rfl, ?_⟩) hHeld ?_
  rotate_left
  · intro w hSw
    go_simp
    try with_reducible rfl
  try simp only [List.getElem_toArray, List.getElem_cons_succ, List.getElem_cons_zero, Act.put, List.setIfInBounds_toArray, List.set_cons_zero, List.set_cons_succ]
  refine wpAnyH_take (i := 2) (oi := _) (v := ?_) rfl (by kernel_rfl) (by kernel_rfl) (by kernel_rfl) (fun _ _ _ h => h) (Or.inl ⟨by rfl, ?_⟩) hHeld ?_
  rotate_left
  · intro w hSw
    go_simp
    try with_reducible rfl
  try simp only [List.getElem_toArray, List.getElem_cons_succ, List.getElem_cons_zero, Act.put, List.setIfInBounds_toArray, List.set_cons_zero, List.set_cons_succ]
  refine wpAnyH_take (i := 3) (oi := _) (v := .agg #[.slice A4 pgF.items.length c4, .bool pgF.more, .string (BA pgF.next), .string (BA pgF.version)]) rfl (by kernel_rfl) (by kernel_rfl) (by kernel_rfl) (fun _ _ _ h => h) (yields_row (by rfl) 28 _ rfl w11.heap.size rfl 28 _ (0, 0) _ (fun w hs => hs.r2) Try.underlying28 rfl infoP) hHeld ?_
  try simp only [List.getElem_toArray, List.getElem_cons_succ, List.getElem_cons_zero, Act.put, List.setIfInBounds_toArray, List.set_cons_zero, List.set_cons_succ]
  refine wpAnyH_take (i := 6) (oi := _) (v := ?_) rfl (by kernel_rfl) (by kernel_rfl) (by kernel_rfl) (fun _ _ _ h => h) (Or.inl ⟨by rfl, ?_⟩) hHeld ?_
  rotate_left
  · intro w hSw
    go_simp
    try with_reducible rfl
  try simp only [List.getElem_toArray, List.getElem_cons_succ, List.getElem_cons_zero, Act.put, List.setIfInBounds_toArray, List.set_cons_zero, List.set_cons_succ]
  refine wpAnyH_take (i := 7) (oi := _) (v := ?_) rfl (by kernel_rfl) (by kernel_rfl) (by kernel_rfl) (fun _ _ _ h => h) (Or.inl ⟨by rfl, ?_⟩) hHeld ?_
  rotate_left
  · intro w hSw
    go_simp
    try with_reducible rfl
  try simp only [List.getElem_toArray, List.getElem_cons_succ, List.getElem_cons_zero, Act.put, List.setIfInBounds_toArray, List.set_cons_zero, List.set_cons_succ]
  refine wpAnyH_ready (rs := [4]) (by kernel_rfl) (by simp) ?_
  refine AllReadyH.cons (o := _) rfl (fun K hK => ?_) AllReadyH.nil
  go_simp
  refine (hvb _).mono ?_
  rintro e w16 ⟨rfl, z16⟩
  have hS4 := hS3.up z16
  clear z16 hS3
  go_wp2_with fail
  refine hK.out _ _ hS4 (fun hHeld => ?_)
  clear hK K
  try simp only [List.getElem_toArray, List.getElem_cons_succ, List.getElem_cons_zero, Act.put, List.setIfInBounds_toArray, List.set_cons_zero, List.set_cons_succ]
  refine wpAnyH_take (i := 5) (oi := _) (v := ?_) rfl (by kernel_rfl) (by kernel_rfl) (by kernel_rfl) (fun _ _ _ h => h) (Or.inl ⟨by rfl, ?_⟩) hHeld ?_
  rotate_left
  · intro w hSw
    go_simp
    try with_reducible rfl
  try simp only [List.getElem_toArray, List.getElem_cons_succ, List.getElem_cons_zero, Act.put, List.setIfInBounds_toArray, List.set_cons_zero, List.set_cons_succ]
  refine wpAnyH_ready (rs := [8]) (by kernel_rfl) (by simp) ?_
  refine AllReadyH.cons (o := _) rfl (fun K hK => ?_) AllReadyH.nil
  go_simp
  refine (hvc _).mono ?_
  rintro e w17 ⟨rfl, z17⟩
  have hS5 := hS4.up z17
  clear z17 hS4
  go_wp2_with fail
  refine hK.out _ _ hS5 (fun hHeld => ?_)
  clear hK K
  try simp only [List.getElem_toArray, List.getElem_cons_succ, List.getElem_cons_zero, Act.put, List.setIfInBounds_toArray, List.set_cons_zero, List.set_cons_succ]
  refine wpAnyH_take (i := 9) (oi := _) (v := ?_) rfl (by kernel_rfl) (by kernel_rfl) (by kernel_rfl) (fun _ _ _ h => h) (Or.inl ⟨by rfl, ?_⟩) hHeld ?_
  rotate_left
  · intro w hSw
    go_simp
    try with_reducible rfl
  try simp only [List.getElem_toArray, List.getElem_cons_succ, List.getElem_cons_zero, Act.put, List.setIfInBounds_toArray, List.set_cons_zero, List.set_cons_succ]
  refine wpAnyH_ready (rs := [10]) (by kernel_rfl) (by simp) ?_
  refine AllReadyH.cons (o := _) rfl (fun K hK => ?_) AllReadyH.nil
  go_simp
  refine hK.out _ _ (hS5.up (ba _ _)) (fun hHeld => ?_)
  clear hK K
  try simp only [List.getElem_toArray, List.getElem_cons_succ, List.getElem_cons_zero, Act.put, List.setIfInBounds_toArray, List.set_cons_zero, List.set_cons_succ]
  refine wpAnyH_take (i := 11) (oi := _) (v := ?_) rfl (by kernel_rfl) (by kernel_rfl) (by kernel_rfl) (fun _ _ _ h => h) (Or.inl ⟨by rfl, ?_⟩) hHeld ?_
  rotate_left
  · intro w hSw
    go_simp
    try with_reducible rfl
  try simp only [List.getElem_toArray, List.getElem_cons_succ, List.getElem_cons_zero, Act.put, List.setIfInBounds_toArray, List.set_cons_zero, List.set_cons_succ]
  refine wpAnyH_ready (rs := [12]) (by kernel_rfl) (by simp) ?_
  refine AllReadyH.cons (o := _) rfl (fun K hK => ?_) AllReadyH.nil
  go_simp
  refine (hsF _ _ _ (hS5.up (ba _ _)).p2 ⟨_, rfl, srcR_row (rows := pgF.items.map itmC) (heap_alloc_new w17 _) (by simp [pgF, itmC])⟩).mono ?_
  rintro e w18 ⟨rfl, z18⟩
  have hS6 := hS5.up (bt (ba _ _) z18)
  clear z18 hS5
  go_wp2_with fail
  refine hK.out _ _ hS6 (fun hHeld => ?_)
  clear hK K
  try simp only [List.getElem_toArray, List.getElem_cons_succ, List.getElem_cons_zero, Act.put, List.setIfInBounds_toArray, List.set_cons_zero, List.set_cons_succ]
  refine wpAnyH_take (i := 13) (oi := _) (v := ?_) rfl (by kernel_rfl) (by kernel_rfl) (by kernel_rfl) (fun _ _ _ h => h) (Or.inl ⟨by rfl, ?_⟩) hHeld ?_
  rotate_left
  · intro w hSw
    go_simp
    try with_reducible rfl
  try simp only [List.getElem_toArray, List.getElem_cons_succ, List.getElem_cons_zero, Act.put, List.setIfInBounds_toArray, List.set_cons_zero, List.set_cons_succ]
  refine wpAnyH_take (i := 14) (oi := _) (v := ?_) rfl (by kernel_rfl) (by kernel_rfl) (by kernel_rfl) (fun _ _ _ h => h) (Or.inl ⟨by rfl, ?_⟩) hHeld ?_
  rotate_left
  · intro w hSw
    go_simp
    try with_reducible rfl
  try simp only [List.getElem_toArray, List.getElem_cons_succ, List.getElem_cons_zero, Act.put, List.setIfInBounds_toArray, List.set_cons_zero, List.set_cons_succ]
  refine wpAnyH_done (by kernel_rfl) ?_ _
  refine NoPanic.normal ?_
  have hB := hS6.b
  clear hS6 hHeld hsE hsF hva hvb hvc
  have hAw := awake_any w18 ⟨m0, hMB _ hB⟩
  have hvx := fun W => v_any ([120] : List UInt8) W
  have hvy := fun W => v_any ([121] : List UInt8) W
  have hCk := fun W v (hE : EntsAt W v [⟨([97] : List UInt8), [ver ([120] : List UInt8)]⟩, ⟨([97] : List UInt8), [ver ([121] : List UInt8)]⟩]) => check_any v _ W (by decide) hE
  rw [known_H] at hCk
  go_wp2_with first | (go_at_call 20; refine hAw.mono ?_; clear hAw; rintro e w19 ⟨rfl, z19⟩) | (go_at_call 22; refine (hvx _).mono ?_; clear hvx; rintro e w20 ⟨rfl, z20⟩) | (go_at_call 22; refine (hvy _).mono ?_; clear hvy; rintro e w21 ⟨rfl, z21⟩) | (go_at_call 17; refine (hCk _ _ (ents_two z21)).mono ?_; clear hCk; rintro e w22 ⟨rfl, z22⟩)
  go_ret
  exact ⟨rfl, bt hB (bt z19 (bt z20 (bt (ba w20 _) (bt z21 (bt (ba w21 _) (bt (ba _ _) z22))))))⟩
end Go.Proofs.Ytdaokkajbooiaaa
end
