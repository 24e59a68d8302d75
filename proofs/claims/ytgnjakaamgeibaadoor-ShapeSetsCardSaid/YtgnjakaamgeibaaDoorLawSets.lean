/-
 Case.texts: short strings. Conditions: the case lies in memory.
 ShapeSets: the law returns true. Conditions: the laid table; the case lies in memory.
-/
import Derived.Test.YtgnjakaamgeibaaDoorShZ
import Derived.Test.YtgnjakaamgeibaaDoorSh4
import Derived.Deep.OwnRows
import Derived.Maps.AppendAt
import Derived.Test.YtgnjakaamgeibaaDoorShS
import Derived.Deep.CutRange
namespace Go.Proofs.YtgnjakaamgeibaaDoor
open Go.RowKit Go.Shelf
attribute [local go_sem] Oper.semAt_some

/-! ### Lists of strings that a call owns -/
def Strs (w : World) (v : Value) (l : List (List UInt8)) : Prop := w.ownsRow 0 9 1 v l.length (l.map strV)
theorem Strs.frm {w w' : World} {v : Value} {l : List (List UInt8)} {F : Nat → Prop} (h : Strs w v l) (hf : Frm F w w') (hF : ∀ k, Blk v k → ¬ F k) : Strs w' v l := ownsRow_frm h hf hF
theorem Strs.form {w : World} {v : Value} {l : List (List UInt8)} (h : Strs w v l) : ∃ ao cap, v = .slice ao l.length cap := by
 rcases h.2 with ⟨rfl, h0⟩ | ⟨g, cap, cur, rfl, -⟩
 ·
  exact ⟨_, _, by rw [h0]⟩
 ·
  exact ⟨_, _, rfl⟩
theorem str_info : ∃ i : TypeInfo, Tryd.prog.info? 9 = some i ∧ i.zero = some (.string ⟨#[]⟩) ∧ i.size = 1 ∧ i.bytes = 16 := by
 obtain ⟨i, h1, h2, h3, h4⟩ := info_parts (show (Tryd.prog.info? 9).map (fun i => (i.zero, i.size, i.bytes)) = some (some (.string ⟨#[]⟩), 1, 16) by kernel_rfl)
 exact ⟨i, h1, h2, h3, h4⟩

/-- 'append(v, x)' where x lies in a list of one that has just been made. -/
theorem run_append_strs {w : World} (ty : TypeId) (v vs : Value) (n : Nat) (xs : List Value) (l : List (List UInt8)) (hown : w.ownsRow 0 9 1 v n xs) (hsrc : w.ownsRow 0 9 1 vs l.length (l.map strV)) (hb : (n + l.length) * 16 ≤ 140737488355328) (hm : n + l.length ≤ maxLen) :
  ∃ v' w', (Builtin.append_ #[43, 43] ty #[v, vs]).run Tryd.prog w = .ok v' w' ∧ w'.ownsRow 0 9 1 v' (n + l.length) (xs ++ l.map strV) ∧ Frm (Blk v) w w' ∧ (∀ k, Blk v' k → Blk v k ∨ w.heap.size ≤ k) := by
 obtain ⟨i0, hi, hz0, hz1, hz2⟩ := str_info
 rcases hsrc.2 with ⟨rfl, h0⟩ | ⟨g, cap, cur, rfl, -, hg, -⟩
 ·
  have hl : l = [] := List.eq_nil_of_length_eq_zero h0
  subst hl
  have hr := run_append_owned_none (P := Tryd.prog) (w := w) 0 43 ty 9 i0 1 Tryd.underlying43 hi v n xs hown
  exact ⟨v, w, hr, by simpa using hown, Frm.refl _ _, fun k hk => .inl hk⟩
 ·
  have hc := hsrc.cells (g := g) rfl
  obtain ⟨v', w', hr, h1, h2, -, h4⟩ := run_append_own_at (P := Tryd.prog) (w := w) 0 43 ty 9 i0 (.string ⟨#[]⟩) 1 16 Tryd.underlying43 hi hz0 hz1 hz2 rfl (by decide) v n xs hown ⟨g, 0, none⟩ l.length cap (l.map strV) (by simp) hc (by intro u hu; obtain ⟨r, -, rfl⟩ := List.mem_map.1 hu; rfl) hm hb (Nat.zero_le _)
  refine ⟨v', w', hr, h1, Frm.of_grown h2 (fun k e => e), fun k hk => ?_⟩
  rcases h4 with e | e
  ·
   refine .inl ?_
   show v.ownBlock = some k
   rw [← e]
   exact hk
  ·
   right
   have : some w.heap.size = some k := by rw [← e]; exact hk
   injection this with this
   omega

theorem wpList_append_strs {w : World} {ops : Array Oper} {rest : List Oper} {o : Oper} {a : Act} {Q : Exit → Act → World → Prop} (hgd : o.guard = none) (s x : Operand)
  (ho : o.op = .call { callee := .builtin .append, args := #[s, x], argTypes := #[43, 43] }) (v vs : Value) (l m : List (List UInt8)) (hs : a.eval s = v) (hx : a.eval x = vs)
  (hown : Strs w v l) (hsrc : Strs w vs m) (hb : l.length + m.length ≤ 1000000)
  (h : ∀ v' w', Strs w' v' (l ++ m) → Frm (Blk v) w w' → (∀ k, Blk v' k → Blk v k ∨ w.heap.size ≤ k) → wpList Tryd.prog ops Q rest (a.put o.dst v') w') : wpList Tryd.prog ops Q (o :: rest) a w := by
 obtain ⟨v', w', hr, h1, h2, h3⟩ := run_append_strs (w := w) o.type v vs _ _ m hown hsrc (by omega) (by unfold maxLen; omega)
 refine wpList_plain hgd fun K hK => ?_
 unfold Oper.wp execOp
 simp only [ho, resolve, invoke, builtin, Sem.run_bind, Sem.run_pure, Result.andThen_ok, List.map_toArray, List.map_cons, List.map_nil, hs, hx, hr]
 refine hK _ _ (h v' w' ?_ h2 h3)
 unfold Strs
 rw [List.length_append, List.map_append]
 exact h1


theorem Strs.at' {w : World} {ao : Option Addr} {n cap : Nat} {l : List (List UInt8)} (h : Strs w (.slice ao n cap) l) (k : Nat) (hk : k < l.length) : ∃ g, ao = some ⟨g, 0, none⟩ ∧ w.cell? ⟨g, k, none⟩ = some (strV l[k]) := by
 rcases h.2 with ⟨hv, h0⟩ | ⟨g, cap', cur, hv, -⟩
 ·
  rw [h0] at hk
  exact absurd hk (Nat.not_lt_zero _)
 ·
  injection hv with e1 e2 e3
  subst e1
  refine ⟨g, rfl, ?_⟩
  have := World.ownsRow.cells (h : w.ownsRow 0 9 1 _ _ _) (g := g) rfl k (strV l[k]) (by rw [List.getElem?_map, List.getElem?_eq_getElem hk]; rfl)
  rw [Addr.add_lit, Nat.zero_add] at this
  exact this
theorem Sh4.frm {w w' : World} {L : Nat} {S : Nat → Shp} {F : Nat → Prop} (h : Sh4 w L S) (f : Frm F w w') (hL : ¬ F L) : Sh4 w' L S := fun i hi => by
 obtain ⟨h1, h2, h3, h4, h5⟩ := h i hi
 exact ⟨f.cell h1 hL, f.cell h2 hL, f.cell h3 hL, f.cell h4 hL, f.cell h5 hL⟩
theorem samp_v (p : Shp) (m : Int) (hm : In64 m) (hb : p.bg.size ≤ 12) (hd : p.en.size ≤ 12) (w : World) : Calls Tryd.prog 18 #[.agg #[.int .i64 p.lo, .int .i64 p.hi, .int .i64 p.cl, .string p.bg, .string p.en], .int .i64 m] w fun e w' => ∃ (X : ByteArray) (ok : Bool), e = .returned (.tuple #[.string X, .bool ok]) ∧ X.size ≤ 200 ∧ Frm (fun _ => False) w w' := by
 refine (samp_any p m hm (by omega) (by omega) w).mono ?_
 rintro e w' ⟨rfl, f⟩
 refine ⟨⟨(sampV p m).1.toArray⟩, _, rfl, ?_, f⟩
 have := sampV_len p m
 show (sampV p m).1.toArray.size ≤ 200
 rw [List.size_toArray]
 exact this

set_option maxRecDepth 100000 in
set_option maxHeartbeats 8000000 in
theorem texts_any {ao ao1 : Option Addr} {n cap n1 cap1 : Nat} {l h c : Int} {b d t : ByteArray} (m0 m1 : Int) (hm0 : In64 m0) (hm1 : In64 m1) (w : World) (hC : CaseAt w ao ao1 n n1 l h c b d t) :
  Calls Tryd.prog 31 #[.agg #[.slice ao n cap, .slice ao1 n1 cap1, .int .i64 l, .int .i64 h, .int .i64 c, .string b, .string d, .string t], .agg #[.int .i64 m0, .int .i64 m1]] w fun e w' => ∃ v ts, e = .returned v ∧ Strs w' v ts ∧ ts.length ≤ 100 ∧ (∀ x ∈ ts, x.length ≤ 200) ∧ Frm (fun _ => False) w w' := by
 have htx := hC.tx
 have HC := Lib.hid hC
 clear hC
 have e1 : min (t.size : Int) 30 = ((min t.size 30 : Nat) : Int) := by omega
 have z1 : (t.extract 0 (min t.size 30)).size ≤ 30 := by rw [ByteArray.size_extract]; omega
 have hs1 := extc t (min t.size 30) (by omega)
 obtain ⟨X, hX⟩ : ∃ X, X = t.extract 0 (min t.size 30) := ⟨_, rfl⟩
 rw [← hX] at z1 hs1
 generalize min t.size 30 = mt at *
 clear hX
 go_enter Tryd.func31, Tryd.ntmps31
 go_upto_region 1 with fail
 obtain ⟨W1, x, hW, hx, hf, a0, a1, a2, a3, a4, a5, a6, a7⟩ := one_case w ao ao1 n cap n1 cap1 l h c b d t
 have hy0 := heap_alloc_new W1 (.cells #[.int .i64 m0, .int .i64 m1] 42)
 have hfy := (Frm.refl (fun _ => False) W1).alloc (.cells #[.int .i64 m0, .int .i64 m1] 42)
 have hsz : W1.heap.size = w.heap.size + 1 := by rw [← hW]; simp
 rw [hW]
 rw [← hsz]
 obtain ⟨W2, hW2⟩ : ∃ W, W = W1.alloc (.cells #[.int .i64 m0, .int .i64 m1] 42) := ⟨_, rfl⟩
 obtain ⟨y, hy⟩ : ∃ y, y = W1.heap.size := ⟨_, rfl⟩
 rw [← hW2, ← hy] at hy0
 rw [← hW2] at hfy
 rw [← hW2, ← hy, hx]
 have hyy : ∀ k : Nat, k < 2 → W2.cell? ⟨y, k, none⟩ = some (.int .i64 (if k = 0 then m0 else m1)) := fun k hk => by
  have : k = 0 ∨ k = 1 := by omega
  rcases this with rfl | rfl <;> (rw [cell_of_row _ _ _ _ _ _ hy0]; rfl)
 have Hyy := Lib.hid hyy
 clear hW hx hW2 hy hsz hy0 hyy
 have a0 := hfy.cell a0 (fun h => h)
 have a1 := hfy.cell a1 (fun h => h)
 have a2 := hfy.cell a2 (fun h => h)
 have a3 := hfy.cell a3 (fun h => h)
 have a4 := hfy.cell a4 (fun h => h)
 have a5 := hfy.cell a5 (fun h => h)
 have a6 := hfy.cell a6 (fun h => h)
 have a7 := hfy.cell a7 (fun h => h)
 have HF := Lib.hid (hf.trans hfy)
 clear hf hfy
 have hown : Strs (W2.alloc (.cells #[.string X] 9)) (.slice (some ⟨W2.heap.size, 0, none⟩) 1 1) [X.data.toList] := ⟨rfl, .inr ⟨W2.heap.size, 1, _, rfl, Nat.zero_le _, heap_alloc_new W2 _, Nat.le_refl _, by unfold maxLen; omega, rfl, rfl⟩⟩
 have hfo := (Frm.refl (fun _ => False) W2).alloc (.cells #[.string X] 9)
 have hvn : w.heap.size ≤ W2.heap.size := HF.out.size
 have HF2 := Lib.hid (HF.out.trans hfo)
 go_upto_region 2 with fail
 obtain ⟨W3, hW3⟩ : ∃ W, W = W2.alloc (.cells #[.string X] 9) := ⟨_, rfl⟩
 obtain ⟨v0, hv0⟩ : ∃ y, y = W2.heap.size := ⟨_, rfl⟩
 rw [← hW3, ← hv0] at hown
 rw [← hv0] at hvn
 rw [← hW3] at hfo HF2
 rw [← hW3, ← hv0]
 have hyv : y ≠ v0 := fun e => by have := World.block_lt_of_cell? _ _ (Hyy.out 0 (by omega)); simp only at this; omega
 have a0 := hfo.cell a0 (fun h => h)
 have a1 := hfo.cell a1 (fun h => h)
 have a2 := hfo.cell a2 (fun h => h)
 have a3 := hfo.cell a3 (fun h => h)
 have a4 := hfo.cell a4 (fun h => h)
 have a5 := hfo.cell a5 (fun h => h)
 have a6 := hfo.cell a6 (fun h => h)
 have a7 := hfo.cell a7 (fun h => h)
 have Hyy := Lib.hid (fun k hk => hfo.cell (Hyy.out k hk) (fun h => h))
 have Hown := Lib.hid hown
 have Hvn := Lib.hid hvn
 have Hyv := Lib.hid hyv
 have Hv0 : Hid (v0 < W3.heap.size) := Lib.hid (by rw [hv0, hW3]; simp)
 clear hW3 hv0 HF hfo hown hvn hyv hs1 e1
 go_wp2_with fail
 refine (shapes_any _ (HC.out.still HF2.out)).mono ?_
 rintro e W4 ⟨s0, s1, s2, g0, g1, g2, rfl, f⟩
 have Hyy := Lib.hid (fun k hk => f.cell (Hyy.out k hk) (fun h => h))
 have Hown := Lib.hid (Hown.out.frm f fun _ _ h => h)
 have Hv0 := Lib.hid (Nat.lt_of_lt_of_le Hv0.out f.size)
 have HF := Lib.hid (HF2.out.trans f)
 clear f a0 a1 a2 a3 a4 a5 a6 a7 HC HF2
 have hr20 := row20_one s0 s1 s2
 go_wp2_with (refine wpList_store_row rfl 28 (.tmp 6) (.tmp 20) rfl _ (row20 s0 s1 s2) rfl rfl 28 _ (heap_alloc_new _ _) row_info28 rfl hr20 ?_)
 obtain ⟨W5, L, hW4, hL, hrow, hfa⟩ := arr_new W4 s0 s1 s2
 rw [hW4, hL]
 have hLv : L ≠ v0 := fun e => by have := Hv0.out; omega
 clear hW4 hL hr20
 obtain ⟨S, hS, hG⟩ := sh4_of (L := L) g0 g1 g2 hrow
 have HS := Lib.hid hS
 have HG := Lib.hid hG
 have Hyy := Lib.hid (fun k hk => hfa.cell (Hyy.out k hk) (fun h => h))
 have Hown := Lib.hid (Hown.out.frm hfa fun _ _ h => h)
 have HF := Lib.hid (HF.out.trans hfa)
 have HLv := Lib.hid hLv
 clear hS hG hrow hfa g0 g1 g2 hLv Hv0
 have hx1 : X.data.toList.length ≤ 200 := by rw [size_list]; omega
 have Hx1 := Lib.hid hx1
 clear hx1 z1 htx
 go_loopw [5, 7] (fun sv si wr => ∃ (i : Nat) (ao cap : _) (ts : List (List UInt8)), sv = .slice ao ts.length cap ∧ si = .int .i64 i ∧ i ≤ 3 ∧ ts.length ≤ 1 + 2 * i ∧ Hid (Strs wr (.slice ao ts.length cap) ts) ∧ Hid (∀ x ∈ ts, x.length ≤ 200) ∧ Hid (Frm (fun k => k = v0) W5 wr) ∧ Hid (∀ k, Blk (.slice ao ts.length cap) k → k = v0 ∨ W5.heap.size ≤ k)) (fun _ si _ => 3 - (intOf si).toNat)
 case atStart => exact ⟨0, _, _, [X.data.toList], rfl, rfl, Nat.zero_le _, Nat.le_refl _, Hown, Lib.hid fun x hx => by rw [List.mem_singleton.1 hx]; exact Hx1.out, Lib.hid (Frm.refl _ _), Lib.hid fun k hk => .inl (Blk.some.1 hk)⟩
 case round =>
  clear Hown Hx1
  obtain ⟨i, ao2, cap2, ts, rfl, rfl, hi, hlen, hst, hxs, hf, hb⟩ := hrel
  by_cases hi3 : i < 3
  ·
   have hi3I : (i : Int) < 3 := by omega
   go_wp2_with fail
   go_loopw [5, 8] (fun sv sk wr => ∃ (k : Nat) (ao cap : _) (ts : List (List UInt8)), sv = .slice ao ts.length cap ∧ sk = .int .i64 k ∧ k ≤ 2 ∧ ts.length ≤ 1 + 2 * i + k ∧ Hid (Strs wr (.slice ao ts.length cap) ts) ∧ Hid (∀ x ∈ ts, x.length ≤ 200) ∧ Hid (Frm (fun k => k = v0) W5 wr) ∧ Hid (∀ k, Blk (.slice ao ts.length cap) k → k = v0 ∨ W5.heap.size ≤ k)) (fun _ sk _ => 2 - (intOf sk).toNat)
   case atStart => exact ⟨0, _, _, ts, rfl, rfl, Nat.zero_le _, by omega, hst, hxs, hf, hb⟩
   case round =>
    clear hst hxs hf hb hlen
    obtain ⟨k, ao5, cap5, us, rfl, rfl, hk, hlen, hst, hxs, hf, hb⟩ := hrel
    by_cases hk2 : k < 2
    ·
     have hk2I : (k : Int) < 2 := by omega
     obtain ⟨p0, p1, p2, p3, p4⟩ := (HS.out.frm hf.out HLv.out) i (by omega)
     have hp := HG.out i (by omega)
     have hyk := hf.out.cell (Hyy.out k hk2) Hyv.out
     have hmk : In64 (if k = 0 then m0 else m1) := by split <;> assumption
     generalize (if k = 0 then m0 else m1) = mk at *
     generalize S i = p at *
     have hsm := samp_v p mk hmk hp.bg hp.en
     have Hsm := Lib.hid hsm
     clear hsm hp hmk
     have hi4 : (i : Int) < 4 := by omega
     go_upto_region 9 with fail
     have HW := Lib.hid ((Frm.refl (fun _ => False) wr).drew)
     refine wp_region_held_drew (S := fun w' => w'.cell? ⟨L, i * 5, none⟩ = some (.int .i64 (p.lo)) ∧ w'.cell? ⟨L, i * 5 + 1, none⟩ = some (.int .i64 (p.hi)) ∧ w'.cell? ⟨L, i * 5 + 2, none⟩ = some (.int .i64 (p.cl)) ∧ w'.cell? ⟨L, i * 5 + 3, none⟩ = some (.string (p.bg)) ∧ w'.cell? ⟨L, i * 5 + 4, none⟩ = some (.string (p.en)) ∧ w'.cell? ⟨y, k, none⟩ = some (.int .i64 (mk))) (by kernel_rfl) ⟨p0, p1, p2, p3, p4, hyk⟩ (fun hHeld => ?_)
     refine tk 0 30 (.int .i64 (i)) rfl (by kernel_rfl) (fun _ _ _ h => h) (.inl ⟨by rfl, fun w hw => by dsimp only at hw; go_simp⟩) hHeld ?_
     simp only [Act.put, List.setIfInBounds_toArray, List.set_cons_zero, List.set_cons_succ]
     refine tk 1 31 (.pointer (some ⟨L, i * 5, none⟩)) rfl (by kernel_rfl) (fun _ _ _ h => h) (.inl ⟨by rfl, fun w hw => by dsimp only at hw; go_simp⟩) hHeld ?_
     simp only [Act.put, List.setIfInBounds_toArray, List.set_cons_zero, List.set_cons_succ]
     refine tk 2 32 (.agg #[.int .i64 (p.lo), .int .i64 (p.hi), .int .i64 (p.cl), .string (p.bg), .string (p.en)]) rfl (by kernel_rfl) (fun _ _ _ h => h) (.inl ⟨by rfl, fun w hw => by dsimp only at hw; go_simp⟩) hHeld ?_
     simp only [Act.put, List.setIfInBounds_toArray, List.set_cons_zero, List.set_cons_succ]
     refine tk 3 33 (.int .i64 (k)) rfl (by kernel_rfl) (fun _ _ _ h => h) (.inl ⟨by rfl, fun w hw => by dsimp only at hw; go_simp⟩) hHeld ?_
     simp only [Act.put, List.setIfInBounds_toArray, List.set_cons_zero, List.set_cons_succ]
     refine tk 4 34 (.pointer (some ⟨y, k, none⟩)) rfl (by kernel_rfl) (fun _ _ _ h => h) (.inl ⟨by rfl, fun w hw => by dsimp only at hw; go_simp⟩) hHeld ?_
     simp only [Act.put, List.setIfInBounds_toArray, List.set_cons_zero, List.set_cons_succ]
     refine tk 5 35 (.int .i64 (mk)) rfl (by kernel_rfl) (fun _ _ _ h => h) (.inl ⟨by rfl, fun w hw => by dsimp only at hw; go_simp⟩) hHeld ?_
     simp only [Act.put, List.setIfInBounds_toArray, List.set_cons_zero, List.set_cons_succ]
     refine wpAnyH_ready (rs := [6]) (by kernel_rfl) (by simp) ?_
     refine AllReadyH.cons (o := ⟨some 36, _, _, _, _, _⟩) rfl (fun K hK => ?_) AllReadyH.nil
     go_simp
     refine (Hsm.out _).mono ?_
     rintro e V1 ⟨Z, ok, rfl, hZ, f1⟩
     have HF1 := Lib.hid (HW.out.trans f1)
     refine hK.out _ _ ⟨f1.cell hHeld.1 (fun h => h), f1.cell hHeld.2.1 (fun h => h), f1.cell hHeld.2.2.1 (fun h => h), f1.cell hHeld.2.2.2.1 (fun h => h), f1.cell hHeld.2.2.2.2.1 (fun h => h), f1.cell hHeld.2.2.2.2.2 (fun h => h)⟩ (fun hHeld => ?_)
     clear hK K f1 HW
     refine tk 7 29 (.tuple #[.string (Z), .bool (ok)]) rfl (by kernel_rfl) (fun _ _ _ h => h) (.inl ⟨by rfl, fun w hw => by dsimp only at hw; go_simp⟩) hHeld ?_
     simp only [Act.put, List.setIfInBounds_toArray, List.set_cons_zero, List.set_cons_succ]
     refine tk 8 37 (.string (Z)) rfl (by kernel_rfl) (fun _ _ _ h => h) (.inl ⟨by rfl, fun w hw => by dsimp only at hw; go_simp⟩) hHeld ?_
     simp only [Act.put, List.setIfInBounds_toArray, List.set_cons_zero, List.set_cons_succ]
     refine tk 9 38 (.bool (ok)) rfl (by kernel_rfl) (fun _ _ _ h => h) (.inl ⟨by rfl, fun w hw => by dsimp only at hw; go_simp⟩) hHeld ?_
     simp only [Act.put, List.setIfInBounds_toArray, List.set_cons_zero, List.set_cons_succ]
     refine tk 10 9 (.string (Z)) rfl (by kernel_rfl) (fun _ _ _ h => h) (.inl ⟨by rfl, fun w hw => by dsimp only at hw; go_simp⟩) hHeld ?_
     simp only [Act.put, List.setIfInBounds_toArray, List.set_cons_zero, List.set_cons_succ]
     refine tk 11 10 (.bool (ok)) rfl (by kernel_rfl) (fun _ _ _ h => h) (.inl ⟨by rfl, fun w hw => by dsimp only at hw; go_simp⟩) hHeld ?_
     simp only [Act.put, List.setIfInBounds_toArray, List.set_cons_zero, List.set_cons_succ]
     refine wpAnyH_done (by kernel_rfl) ?_ _
     have hfz : Frm (fun k => k = v0) W5 _ := hf.out.trans (HF1.out.mono fun _ h => h.elim)
     have hstz := hst.out.frm HF1.out fun _ _ h => h
     have hsz : wr.heap.size ≤ _ := HF1.out.size
     clear hHeld hyk p0 p1 p2 p3 p4 Hsm HF1 hf hst hsz
     have Hfz := Lib.hid hfz
     have Hstz := Lib.hid hstz
     clear hfz hstz
     cases ok
     ·
      go_wp2_with fail
      go_roundw
      case rel => exact ⟨k + 1, ao5, cap5, us, rfl, by go_num, hk2, by omega, Hstz, hxs, Hfz, hb⟩
      case measure => simp [intOf]; omega
     ·
      have hzz : Value.string Z = strV Z.data.toList := rfl
      have hown2 : Strs (V1.alloc (.cells #[.string Z] 9)) (.slice ao5 us.length cap5) us := Hstz.out.frm (F := fun _ => False) ((Frm.refl _ _).alloc _) (fun _ _ h => h)
      have hsrc : Strs (V1.alloc (.cells #[.string Z] 9)) (.slice (some ⟨V1.heap.size, 0, none⟩) 1 1) [Z.data.toList] := ⟨rfl, .inr ⟨V1.heap.size, 1, _, rfl, Nat.zero_le _, heap_alloc_new V1 _, Nat.le_refl _, by unfold maxLen; omega, rfl, rfl⟩⟩
      have Hown2 := Lib.hid hown2
      have Hsrc := Lib.hid hsrc
      have Hlen : Hid (us.length ≤ 100) := Lib.hid (by omega)
      clear hown2 hsrc hzz
      go_wp2_with (at_builtin; refine wpList_append_strs rfl _ _ rfl _ _ us _ rfl rfl Hown2.out Hsrc.out (by have := Hlen.out; show _ + 1 ≤ _; omega) ?_)
      intro v' w2 hv2 hf2 hb2
      obtain ⟨ao3, cap3, rfl⟩ := hv2.form
      have hfin : Frm (fun k => k = v0) W5 w2 := (Hfz.out.alloc (.cells #[.string Z] 9)).trans' hf2 fun b hb' => hb.out b hb'
      have hbin : ∀ k, Blk (.slice ao3 (us ++ [Z.data.toList]).length cap3) k → k = v0 ∨ W5.heap.size ≤ k := fun k hk => (hb2 k hk).elim (fun h => hb.out k h) (fun h => .inr (Nat.le_trans (Nat.le_trans Hfz.out.size (by simp)) h))
      have hxs2 : ∀ x ∈ us ++ [Z.data.toList], x.length ≤ 200 := fun x hx => by
       rcases List.mem_append.1 hx with h | h
       ·
        exact hxs.out x h
       ·
        rw [List.mem_singleton.1 h, size_list]; exact hZ
      have hl2 : (us ++ [Z.data.toList]).length ≤ 1 + 2 * i + (k + 1) := by rw [List.length_append, List.length_singleton]; omega
      generalize us ++ [Z.data.toList] = ts2 at *
      have Hv2 := Lib.hid hv2
      have Hfin := Lib.hid hfin
      have Hbin := Lib.hid hbin
      have Hxs2 := Lib.hid hxs2
      clear hv2 hfin hbin hxs2 hf2 hb2 Hown2 Hsrc Hlen Hstz Hfz
      go_wp2_with fail
      go_roundw
      case rel => exact ⟨k + 1, ao3, cap3, ts2, rfl, by go_num, hk2, hl2, Hv2, Hxs2, Hfin, Hbin⟩
      case measure => simp [intOf]; omega
    ·
     have hk2I : ¬ (k : Int) < 2 := by omega
     go_wp2_with fail
     go_roundw
     case rel => exact ⟨i + 1, ao5, cap5, us, rfl, by go_num, hi3, by omega, hst, hxs, hf, hb⟩
     case measure => simp [intOf]; omega
  ·
   have hi3I : ¬ (i : Int) < 3 := by omega
   go_wp2_with fail
   go_ret
   exact ⟨_, rfl, ts, hst.out, by omega, hxs.out, HF.out.trans' hf.out fun k hk => .inr (by subst hk; exact Hvn.out)⟩
end Go.Proofs.YtgnjakaamgeibaaDoor
namespace Go.Proofs.YtgnjakaamgeibaaDoor
open Go.RowKit Go.Shelf
attribute [local go_sem] Oper.semAt_some

/-- What the law asks of a text. -/
theorem sets_ok (p q : Shp) (t : List UInt8) : inS (meetS p q) t = (inS p t && inS q t) ∧ (inS p t = true → inS (joinS p q) t = true) ∧ (inS q t = true → inS (joinS p q) t = true) ∧ (withinB p q = true → inS p t = true → inS q t = true) :=
 ⟨meet_in p q t, fun h => join_in (.inl h), fun h => join_in (.inr h), fun h g => within_in h g⟩
theorem join_size' {p q : Shp} (hp : p.bg.size ≤ 1000 ∧ p.en.size ≤ 1000) (hq : q.bg.size ≤ 1000 ∧ q.en.size ≤ 1000) : (joinS p q).bg.size ≤ 1000 ∧ (joinS p q).en.size ≤ 1000 := by
 unfold joinS
 split
 ·
  exact ⟨Nat.zero_le _, Nat.zero_le _⟩
 split
 ·
  exact hq
 split
 ·
  exact hp
 ·
  simp only [ByteArray.size_extract]
  omega
theorem meet_size' {p q : Shp} (hp : p.bg.size ≤ 1000 ∧ p.en.size ≤ 1000) (hq : q.bg.size ≤ 1000 ∧ q.en.size ≤ 1000) : (meetS p q).bg.size ≤ 1000 ∧ (meetS p q).en.size ≤ 1000 := by
 unfold meetS
 split
 ·
  exact ⟨Nat.zero_le _, Nat.zero_le _⟩
 split
 ·
  exact ⟨Nat.zero_le _, Nat.zero_le _⟩
 ·
  unfold meetM
  simp only
  refine ⟨?_, ?_⟩ <;> split
  ·
   exact hq.1
  ·
   exact hp.1
  ·
   exact hq.2
  ·
   exact hp.2
theorem sz_of {p : Shp} (h : ShG p) : p.bg.size ≤ 1000 ∧ p.en.size ≤ 1000 := ⟨Nat.le_trans h.bg (by decide), Nat.le_trans h.en (by decide)⟩

set_option maxRecDepth 100000 in
set_option maxHeartbeats 8000000 in
theorem law_sets {ao ao1 : Option Addr} {n cap n1 cap1 : Nat} {l h c : Int} {b d t : ByteArray} (m0 m1 : Int) (w : World) (hT : Tabs w) (hC : CaseAt w ao ao1 n n1 l h c b d t) (hm0 : In64 m0) (hm1 : In64 m1) :
  Calls Tryd.prog 6 #[.agg #[.slice ao n cap, .slice ao1 n1 cap1, .int .i64 l, .int .i64 h, .int .i64 c, .string b, .string d, .string t], .agg #[.int .i64 m0, .int .i64 m1]] w fun e w' => e = .returned (.bool true) ∧ Frm (fun _ => False) w w' := by
 have HT := Lib.hid hT
 have HC := Lib.hid hC
 clear hT hC
 go_enter Tryd.func6, Tryd.ntmps6
 go_upto_region 1 with fail
 obtain ⟨W1, x, hW, hx, hf, a0, a1, a2, a3, a4, a5, a6, a7⟩ := one_case w ao ao1 n cap n1 cap1 l h c b d t
 have hy0 := heap_alloc_new W1 (.cells #[.int .i64 m0, .int .i64 m1] 42)
 have hfy := (Frm.refl (fun _ => False) W1).alloc (.cells #[.int .i64 m0, .int .i64 m1] 42)
 have hsz : W1.heap.size = w.heap.size + 1 := by rw [← hW]; simp
 rw [hW]
 rw [← hsz]
 obtain ⟨W2, hW2⟩ : ∃ W, W = W1.alloc (.cells #[.int .i64 m0, .int .i64 m1] 42) := ⟨_, rfl⟩
 obtain ⟨y, hy⟩ : ∃ y, y = W1.heap.size := ⟨_, rfl⟩
 rw [← hW2, ← hy] at hy0
 rw [← hW2] at hfy
 rw [← hW2, ← hy, hx]
 have y0 : W2.cell? ⟨y, 0, none⟩ = some (.int .i64 m0) := by rw [cell_of_row _ _ _ _ _ _ hy0]; rfl
 have y1 : W2.cell? ⟨y, 1, none⟩ = some (.int .i64 m1) := by rw [cell_of_row _ _ _ _ _ _ hy0]; rfl
 have HF := Lib.hid (hf.trans hfy)
 have a0 := hfy.cell a0 (fun h => h)
 have a1 := hfy.cell a1 (fun h => h)
 have a2 := hfy.cell a2 (fun h => h)
 have a3 := hfy.cell a3 (fun h => h)
 have a4 := hfy.cell a4 (fun h => h)
 have a5 := hfy.cell a5 (fun h => h)
 have a6 := hfy.cell a6 (fun h => h)
 have a7 := hfy.cell a7 (fun h => h)
 clear hW hx hf hfy hsz hW2 hy hy0
 go_wp2_with fail
 refine (sanity8_any _ (HT.out.frm HF.out)).mono ?_
 rintro e W3 ⟨rfl, f⟩
 have a0 := f.cell a0 (fun h => h)
 have a1 := f.cell a1 (fun h => h)
 have a2 := f.cell a2 (fun h => h)
 have a3 := f.cell a3 (fun h => h)
 have a4 := f.cell a4 (fun h => h)
 have a5 := f.cell a5 (fun h => h)
 have a6 := f.cell a6 (fun h => h)
 have a7 := f.cell a7 (fun h => h)
 have y0 := f.cell y0 (fun h => h)
 have y1 := f.cell y1 (fun h => h)
 have HF := Lib.hid (HF.out.trans f)
 clear f
 go_wp2_with fail
 refine (shapes_any _ (HC.out.still HF.out)).mono ?_
 rintro e W4 ⟨s0, s1, s2, g0, g1, g2, rfl, f⟩
 have a0 := f.cell a0 (fun h => h)
 have a1 := f.cell a1 (fun h => h)
 have a2 := f.cell a2 (fun h => h)
 have a3 := f.cell a3 (fun h => h)
 have a4 := f.cell a4 (fun h => h)
 have a5 := f.cell a5 (fun h => h)
 have a6 := f.cell a6 (fun h => h)
 have a7 := f.cell a7 (fun h => h)
 have y0 := f.cell y0 (fun h => h)
 have y1 := f.cell y1 (fun h => h)
 have HF := Lib.hid (HF.out.trans f)
 clear f
 have hr20 := row20_one s0 s1 s2
 obtain ⟨W5, L, hW4, hL, hrow, hfa⟩ := arr_new W4 s0 s1 s2
 have a0' := hfa.cell a0 (fun h => h)
 have a1' := hfa.cell a1 (fun h => h)
 have a2' := hfa.cell a2 (fun h => h)
 have a3' := hfa.cell a3 (fun h => h)
 have a4' := hfa.cell a4 (fun h => h)
 have a5' := hfa.cell a5 (fun h => h)
 have a6' := hfa.cell a6 (fun h => h)
 have a7' := hfa.cell a7 (fun h => h)
 have y0' := hfa.cell y0 (fun h => h)
 have y1' := hfa.cell y1 (fun h => h)
 have HW4 := Lib.hid hW4
 have HL := Lib.hid hL
 clear hW4 hL
 go_wp2_with (first | (refine wpList_store_row rfl 28 (.tmp 6) (.tmp 18) rfl _ (row20 s0 s1 s2) rfl rfl 28 _ (heap_alloc_new _ _) row_info28 rfl hr20 ?_; rw [HW4.out, HL.out]))
 have HF := Lib.hid (HF.out.trans hfa)
 clear HW4 HL hr20 a0 a1 a2 a3 a4 a5 a6 a7 y0 y1
 obtain ⟨S, hS, hG⟩ := sh4_of (L := L) g0 g1 g2 hrow
 have HG := Lib.hid hG
 clear hG hrow hfa g0 g1 g2
 refine (texts_any m0 m1 hm0 hm1 _ (HC.out.still HF.out)).mono ?_
 rintro e W6 ⟨v, ts, rfl, hts, htl, htx, f⟩
 have HS := Lib.hid (hS.still f)
 have Hts := Lib.hid hts
 have Htx := Lib.hid htx
 have HF := Lib.hid (HF.out.trans f)
 obtain ⟨ao9, cap9, rfl⟩ := hts.form
 clear f hS hts htx HT HC a0' a1' a2' a3' a4' a5' a6' a7' y0' y1'
 go_wp2_with fail
 go_loopw [8] (fun s wr => ∃ i : Nat, s = .int .i64 i ∧ i ≤ 3 ∧ Frm (fun _ => False) W6 wr) (fun s _ => 3 - (intOf s).toNat)
 case atStart => exact ⟨0, rfl, Nat.zero_le _, Frm.refl _ _⟩
 case round =>
  obtain ⟨i, rfl, hi, hf⟩ := hrel
  by_cases hi3 : i < 3
  ·
   have hi3I : (i : Int) < 3 := by omega
   have Hf := Lib.hid hf
   clear hf
   go_wp2_with fail
   go_loopw [9] (fun s wr => ∃ k : Nat, s = .int .i64 k ∧ k ≤ 3 ∧ Frm (fun _ => False) W6 wr) (fun s _ => 3 - (intOf s).toNat)
   case atStart => exact ⟨0, rfl, Nat.zero_le _, Hf.out⟩
   case round =>
    clear Hf
    obtain ⟨k, rfl, hk, hf⟩ := hrel
    by_cases hk3 : k < 3
    ·
     have hk3I : (k : Int) < 3 := by omega
     have hi4 : (i : Int) < 4 := by omega
     have hk4 : (k : Int) < 4 := by omega
     obtain ⟨p0, p1, p2, p3, p4⟩ := (HS.out.still hf) i (by omega)
     obtain ⟨q0, q1, q2, q3, q4⟩ := (HS.out.still hf) k (by omega)
     have hp := sz_of (HG.out i (by omega))
     have hq := sz_of (HG.out k (by omega))
     have hp12 := HG.out i (by omega)
     have hq12 := HG.out k (by omega)
     have hpc := fun (W : World) (f : Frm (fun _ => False) W6 W) => (HS.out.still f) i (by omega)
     have hqc := fun (W : World) (f : Frm (fun _ => False) W6 W) => (HS.out.still f) k (by omega)
     generalize S i = p at *
     generalize S k = q at *
     have Hpc := Lib.hid hpc
     have Hqc := Lib.hid hqc
     clear hpc hqc
     obtain ⟨z1, z2⟩ := join_size' hp hq
     obtain ⟨z3, z4⟩ := meet_size' hp hq
     have hj := join_any p q hp hq
     have hm := meet_any p q hp hq
     have hv := within_any p q hp hq
     have hcp := fun T (hT : T.size ≤ 9223372036854775807) => con_any p T hT
     have hcq := fun T (hT : T.size ≤ 9223372036854775807) => con_any q T hT
     have hcj := fun T (hT : T.size ≤ 9223372036854775807) => con_any (joinS p q) T hT
     have hcm := fun T (hT : T.size ≤ 9223372036854775807) => con_any (meetS p q) T hT
     have hok := fun (T : ByteArray) => sets_ok p q T.data.toList
     generalize joinS p q = J at *
     generalize meetS p q = M at *
     generalize withinB p q = wi at *
     generalize inS p = ip at *
     generalize inS q = iq at *
     generalize inS J = ij at *
     generalize inS M = im at *
     unfold shV at hj hm hv hcp hcq hcj hcm
     have Hj := Lib.hid hj
     have Hm := Lib.hid hm
     have Hv := Lib.hid hv
     have Hcp := Lib.hid hcp
     have Hcq := Lib.hid hcq
     have Hcj := Lib.hid hcj
     have Hcm := Lib.hid hcm
     have Hok := Lib.hid hok
     clear hj hm hv hcp hcq hcj hcm hok hp hq hp12 hq12 z1 z2 z3 z4
     go_upto_region 10 with fail
     go_cut [10] from 26 to 108 (fun sx wx => ∃ m, sx = .pointer (some ⟨m, 0, none⟩) ∧ wx.heap[m]? = some (.cells #[.int .i64 (M.lo), .int .i64 (M.hi), .int .i64 (M.cl), .string (M.bg), .string (M.en)] 24 (0, 0)) ∧ Frm (fun _ => False) W6 wx)
     case first =>
      have HX := Lib.hid hf.drew
      refine wp_region_held_drew (S := fun w' => w'.cell? ⟨L, i * 5, none⟩ = some (.int .i64 (p.lo)) ∧ w'.cell? ⟨L, i * 5 + 1, none⟩ = some (.int .i64 (p.hi)) ∧ w'.cell? ⟨L, i * 5 + 2, none⟩ = some (.int .i64 (p.cl)) ∧ w'.cell? ⟨L, i * 5 + 3, none⟩ = some (.string (p.bg)) ∧ w'.cell? ⟨L, i * 5 + 4, none⟩ = some (.string (p.en)) ∧ w'.cell? ⟨L, k * 5, none⟩ = some (.int .i64 (q.lo)) ∧ w'.cell? ⟨L, k * 5 + 1, none⟩ = some (.int .i64 (q.hi)) ∧ w'.cell? ⟨L, k * 5 + 2, none⟩ = some (.int .i64 (q.cl)) ∧ w'.cell? ⟨L, k * 5 + 3, none⟩ = some (.string (q.bg)) ∧ w'.cell? ⟨L, k * 5 + 4, none⟩ = some (.string (q.en))) (by kernel_rfl) ⟨p0, p1, p2, p3, p4, q0, q1, q2, q3, q4⟩ (fun hHeld => ?_)
      generalize wr.drew = Yc at *
      refine tk 0 30 (.int .i64 (i)) rfl (by kernel_rfl) (fun _ _ _ h => h) (.inl ⟨by rfl, fun w hw => by dsimp only at hw; go_simp⟩) hHeld ?_
      simp only [Act.put, List.setIfInBounds_toArray, List.set_cons_zero, List.set_cons_succ]
      refine tk 1 31 (.pointer (some ⟨L, i * 5, none⟩)) rfl (by kernel_rfl) (fun _ _ _ h => h) (.inl ⟨by rfl, fun w hw => by dsimp only at hw; go_simp⟩) hHeld ?_
      simp only [Act.put, List.setIfInBounds_toArray, List.set_cons_zero, List.set_cons_succ]
      refine tk 2 32 (.agg #[.int .i64 (p.lo), .int .i64 (p.hi), .int .i64 (p.cl), .string (p.bg), .string (p.en)]) rfl (by kernel_rfl) (fun _ _ _ h => h) (.inl ⟨by rfl, fun w hw => by dsimp only at hw; go_simp⟩) hHeld ?_
      simp only [Act.put, List.setIfInBounds_toArray, List.set_cons_zero, List.set_cons_succ]
      refine tk 3 33 (.int .i64 (k)) rfl (by kernel_rfl) (fun _ _ _ h => h) (.inl ⟨by rfl, fun w hw => by dsimp only at hw; go_simp⟩) hHeld ?_
      simp only [Act.put, List.setIfInBounds_toArray, List.set_cons_zero, List.set_cons_succ]
      refine tk 4 34 (.pointer (some ⟨L, k * 5, none⟩)) rfl (by kernel_rfl) (fun _ _ _ h => h) (.inl ⟨by rfl, fun w hw => by dsimp only at hw; go_simp⟩) hHeld ?_
      simp only [Act.put, List.setIfInBounds_toArray, List.set_cons_zero, List.set_cons_succ]
      refine tk 5 35 (.agg #[.int .i64 (q.lo), .int .i64 (q.hi), .int .i64 (q.cl), .string (q.bg), .string (q.en)]) rfl (by kernel_rfl) (fun _ _ _ h => h) (.inl ⟨by rfl, fun w hw => by dsimp only at hw; go_simp⟩) hHeld ?_
      simp only [Act.put, List.setIfInBounds_toArray, List.set_cons_zero, List.set_cons_succ]
      refine wpAnyH_ready (rs := [6, 7]) (by kernel_rfl) (by simp) ?_
      refine AllReadyH.cons (o := ⟨some 36, _, _, _, _, _⟩) rfl (fun K hK => ?_) (AllReadyH.cons (o := ⟨some 10, _, _, _, _, _⟩) rfl (fun K hK => ?_) AllReadyH.nil)
      ·
       skip
       go_simp
       refine (Hm.out _).mono ?_
       rintro e Vc1 ⟨rfl, fc1⟩
       have HFc1 := Lib.hid (HX.out.trans fc1)
       refine hK.out _ _ ⟨fc1.cell hHeld.1 (fun h => h), fc1.cell hHeld.2.1 (fun h => h), fc1.cell hHeld.2.2.1 (fun h => h), fc1.cell hHeld.2.2.2.1 (fun h => h), fc1.cell hHeld.2.2.2.2.1 (fun h => h), fc1.cell hHeld.2.2.2.2.2.1 (fun h => h), fc1.cell hHeld.2.2.2.2.2.2.1 (fun h => h), fc1.cell hHeld.2.2.2.2.2.2.2.1 (fun h => h), fc1.cell hHeld.2.2.2.2.2.2.2.2.1 (fun h => h), fc1.cell hHeld.2.2.2.2.2.2.2.2.2 (fun h => h)⟩ (fun hHeld => ?_)
       clear hK K fc1 HX
       refine wpAnyH_ready (rs := [7]) (by kernel_rfl) (by simp) ?_
       refine AllReadyH.cons (o := ⟨some 10, _, _, _, _, _⟩) rfl (fun K hK => ?_) AllReadyH.nil
       go_simp
       have hrm := Res.start W6 _ HFc1.out
       have fc2 := (Frm.refl (fun _ => False) Vc1).alloc (.cells #[.int .i64 0, .int .i64 0, .int .i64 0, .string ⟨#[]⟩, .string ⟨#[]⟩] 24)
       have hnLm : L ≠ Vc1.heap.size := fun e => by have := World.block_lt_of_cell? _ _ hHeld.1; simp only at this; omega
       obtain ⟨Vc2, hVc2⟩ : ∃ V, V = Vc1.alloc (.cells #[.int .i64 0, .int .i64 0, .int .i64 0, .string ⟨#[]⟩, .string ⟨#[]⟩] 24) := ⟨_, rfl⟩
       obtain ⟨m, hmc2⟩ : ∃ m, m = Vc1.heap.size := ⟨_, rfl⟩
       rw [← hVc2, ← hmc2] at hrm
       rw [← hVc2] at fc2
       rw [← hmc2] at hnLm
       rw [← hVc2, ← hmc2]
       clear hVc2 hmc2
       have HFc2 := Lib.hid (HFc1.out.trans fc2)
       refine hK.out _ _ ⟨fc2.cell hHeld.1 (fun h => h), fc2.cell hHeld.2.1 (fun h => h), fc2.cell hHeld.2.2.1 (fun h => h), fc2.cell hHeld.2.2.2.1 (fun h => h), fc2.cell hHeld.2.2.2.2.1 (fun h => h), fc2.cell hHeld.2.2.2.2.2.1 (fun h => h), fc2.cell hHeld.2.2.2.2.2.2.1 (fun h => h), fc2.cell hHeld.2.2.2.2.2.2.2.1 (fun h => h), fc2.cell hHeld.2.2.2.2.2.2.2.2.1 (fun h => h), fc2.cell hHeld.2.2.2.2.2.2.2.2.2 (fun h => h)⟩ (fun hHeld => ?_)
       clear hK K fc2 HFc1
       refine wpAnyH_ready (rs := [8]) (by kernel_rfl) (by simp) ?_
       refine AllReadyH.cons (o := ⟨none, _, _, _, _, _⟩) rfl (fun K hK => ?_) AllReadyH.nil
       have hrc3 := hrm
       obtain ⟨u0, u1, u2, u3, u4, ⟨c0, c1, c2, c3, c4⟩, z0, z1, z2, z3, z4⟩ := hrc3.facts
       go_simp
       clear c0 c1 c2 c3 c4 z0 z1 z2 z3 z4
       obtain ⟨Vc3, hVc3, hrowc3, hresc3, hcellc3, hheapc3⟩ := hrc3.put2 (.int .i64 (M.lo)) (.int .i64 (M.hi)) (.int .i64 (M.cl)) (.string (M.bg)) (.string (M.en))
       rw [hVc3]
       clear hVc3 hrc3
       refine hK.out _ _ ⟨hcellc3 _ _ _ hnLm hHeld.1, hcellc3 _ _ _ hnLm hHeld.2.1, hcellc3 _ _ _ hnLm hHeld.2.2.1, hcellc3 _ _ _ hnLm hHeld.2.2.2.1, hcellc3 _ _ _ hnLm hHeld.2.2.2.2.1, hcellc3 _ _ _ hnLm hHeld.2.2.2.2.2.1, hcellc3 _ _ _ hnLm hHeld.2.2.2.2.2.2.1, hcellc3 _ _ _ hnLm hHeld.2.2.2.2.2.2.2.1, hcellc3 _ _ _ hnLm hHeld.2.2.2.2.2.2.2.2.1, hcellc3 _ _ _ hnLm hHeld.2.2.2.2.2.2.2.2.2⟩ (fun hHeld => ?_)
       clear hK K hcellc3
       refine wpAnyH_done (by kernel_rfl) ?_ _
       obtain ⟨p0, p1, p2, p3, p4, q0, q1, q2, q3, q4⟩ := hHeld
       go_wp2_with fail
       go_meet
       case rel => exact ⟨m, rfl, hrowc3, hresc3.frm⟩
      ·
       skip
       go_simp
       have hrm := Res.start W6 _ HX.out
       have fc1 := (Frm.refl (fun _ => False) Yc).alloc (.cells #[.int .i64 0, .int .i64 0, .int .i64 0, .string ⟨#[]⟩, .string ⟨#[]⟩] 24)
       have hnLm : L ≠ Yc.heap.size := fun e => by have := World.block_lt_of_cell? _ _ hHeld.1; simp only at this; omega
       obtain ⟨Vc1, hVc1⟩ : ∃ V, V = Yc.alloc (.cells #[.int .i64 0, .int .i64 0, .int .i64 0, .string ⟨#[]⟩, .string ⟨#[]⟩] 24) := ⟨_, rfl⟩
       obtain ⟨m, hmc1⟩ : ∃ m, m = Yc.heap.size := ⟨_, rfl⟩
       rw [← hVc1, ← hmc1] at hrm
       rw [← hVc1] at fc1
       rw [← hmc1] at hnLm
       rw [← hVc1, ← hmc1]
       clear hVc1 hmc1
       have HFc1 := Lib.hid (HX.out.trans fc1)
       refine hK.out _ _ ⟨fc1.cell hHeld.1 (fun h => h), fc1.cell hHeld.2.1 (fun h => h), fc1.cell hHeld.2.2.1 (fun h => h), fc1.cell hHeld.2.2.2.1 (fun h => h), fc1.cell hHeld.2.2.2.2.1 (fun h => h), fc1.cell hHeld.2.2.2.2.2.1 (fun h => h), fc1.cell hHeld.2.2.2.2.2.2.1 (fun h => h), fc1.cell hHeld.2.2.2.2.2.2.2.1 (fun h => h), fc1.cell hHeld.2.2.2.2.2.2.2.2.1 (fun h => h), fc1.cell hHeld.2.2.2.2.2.2.2.2.2 (fun h => h)⟩ (fun hHeld => ?_)
       clear hK K fc1 HX
       refine wpAnyH_ready (rs := [6]) (by kernel_rfl) (by simp) ?_
       refine AllReadyH.cons (o := ⟨some 36, _, _, _, _, _⟩) rfl (fun K hK => ?_) AllReadyH.nil
       go_simp
       refine (Hm.out _).mono ?_
       rintro e Vc2 ⟨rfl, fc2⟩
       have HFc2 := Lib.hid (HFc1.out.trans fc2)
       have hrm := hrm.still fc2
       refine hK.out _ _ ⟨fc2.cell hHeld.1 (fun h => h), fc2.cell hHeld.2.1 (fun h => h), fc2.cell hHeld.2.2.1 (fun h => h), fc2.cell hHeld.2.2.2.1 (fun h => h), fc2.cell hHeld.2.2.2.2.1 (fun h => h), fc2.cell hHeld.2.2.2.2.2.1 (fun h => h), fc2.cell hHeld.2.2.2.2.2.2.1 (fun h => h), fc2.cell hHeld.2.2.2.2.2.2.2.1 (fun h => h), fc2.cell hHeld.2.2.2.2.2.2.2.2.1 (fun h => h), fc2.cell hHeld.2.2.2.2.2.2.2.2.2 (fun h => h)⟩ (fun hHeld => ?_)
       clear hK K fc2 HFc1
       refine wpAnyH_ready (rs := [8]) (by kernel_rfl) (by simp) ?_
       refine AllReadyH.cons (o := ⟨none, _, _, _, _, _⟩) rfl (fun K hK => ?_) AllReadyH.nil
       have hrc3 := hrm
       obtain ⟨u0, u1, u2, u3, u4, ⟨c0, c1, c2, c3, c4⟩, z0, z1, z2, z3, z4⟩ := hrc3.facts
       go_simp
       clear c0 c1 c2 c3 c4 z0 z1 z2 z3 z4
       obtain ⟨Vc3, hVc3, hrowc3, hresc3, hcellc3, hheapc3⟩ := hrc3.put2 (.int .i64 (M.lo)) (.int .i64 (M.hi)) (.int .i64 (M.cl)) (.string (M.bg)) (.string (M.en))
       rw [hVc3]
       clear hVc3 hrc3
       refine hK.out _ _ ⟨hcellc3 _ _ _ hnLm hHeld.1, hcellc3 _ _ _ hnLm hHeld.2.1, hcellc3 _ _ _ hnLm hHeld.2.2.1, hcellc3 _ _ _ hnLm hHeld.2.2.2.1, hcellc3 _ _ _ hnLm hHeld.2.2.2.2.1, hcellc3 _ _ _ hnLm hHeld.2.2.2.2.2.1, hcellc3 _ _ _ hnLm hHeld.2.2.2.2.2.2.1, hcellc3 _ _ _ hnLm hHeld.2.2.2.2.2.2.2.1, hcellc3 _ _ _ hnLm hHeld.2.2.2.2.2.2.2.2.1, hcellc3 _ _ _ hnLm hHeld.2.2.2.2.2.2.2.2.2⟩ (fun hHeld => ?_)
       clear hK K hcellc3
       refine wpAnyH_done (by kernel_rfl) ?_ _
       obtain ⟨p0, p1, p2, p3, p4, q0, q1, q2, q3, q4⟩ := hHeld
       go_wp2_with fail
       go_meet
       case rel => exact ⟨m, rfl, hrowc3, hresc3.frm⟩
     case rest =>
      clear hf p0 p1 p2 p3 p4 q0 q1 q2 q3 q4 Hm
      obtain ⟨mb, rfl, hmb, hf⟩ := hcut
      have HS4 := HS.out.still hf
      obtain ⟨p0, p1, p2, p3, p4⟩ := Hpc.out _ hf
      obtain ⟨q0, q1, q2, q3, q4⟩ := Hqc.out _ hf
      clear HS4
      go_upto_region 11 with fail
      go_cut [11] from 26 to 108 (fun sx wx => ∃ m, sx = .pointer (some ⟨m, 0, none⟩) ∧ wx.heap[m]? = some (.cells #[.int .i64 (J.lo), .int .i64 (J.hi), .int .i64 (J.cl), .string (J.bg), .string (J.en)] 24 (0, 0)) ∧ wx.heap[mb]? = some (.cells #[.int .i64 (M.lo), .int .i64 (M.hi), .int .i64 (M.cl), .string (M.bg), .string (M.en)] 24 (0, 0)) ∧ Frm (fun _ => False) W6 wx)
      case first =>
       have HX := Lib.hid hf.drew
       refine wp_region_held_drew (S := fun w' => w'.cell? ⟨L, i * 5, none⟩ = some (.int .i64 (p.lo)) ∧ w'.cell? ⟨L, i * 5 + 1, none⟩ = some (.int .i64 (p.hi)) ∧ w'.cell? ⟨L, i * 5 + 2, none⟩ = some (.int .i64 (p.cl)) ∧ w'.cell? ⟨L, i * 5 + 3, none⟩ = some (.string (p.bg)) ∧ w'.cell? ⟨L, i * 5 + 4, none⟩ = some (.string (p.en)) ∧ w'.cell? ⟨L, k * 5, none⟩ = some (.int .i64 (q.lo)) ∧ w'.cell? ⟨L, k * 5 + 1, none⟩ = some (.int .i64 (q.hi)) ∧ w'.cell? ⟨L, k * 5 + 2, none⟩ = some (.int .i64 (q.cl)) ∧ w'.cell? ⟨L, k * 5 + 3, none⟩ = some (.string (q.bg)) ∧ w'.cell? ⟨L, k * 5 + 4, none⟩ = some (.string (q.en)) ∧ w'.heap[mb]? = some (.cells #[.int .i64 (M.lo), .int .i64 (M.hi), .int .i64 (M.cl), .string (M.bg), .string (M.en)] 24 (0, 0))) (by kernel_rfl) ⟨p0, p1, p2, p3, p4, q0, q1, q2, q3, q4, hmb⟩ (fun hHeld => ?_)
       generalize wc.drew = Yd at *
       refine tk 0 37 (.int .i64 (i)) rfl (by kernel_rfl) (fun _ _ _ h => h) (.inl ⟨by rfl, fun w hw => by dsimp only at hw; go_simp⟩) hHeld ?_
       simp only [Act.put, List.setIfInBounds_toArray, List.set_cons_zero, List.set_cons_succ]
       refine tk 1 38 (.pointer (some ⟨L, i * 5, none⟩)) rfl (by kernel_rfl) (fun _ _ _ h => h) (.inl ⟨by rfl, fun w hw => by dsimp only at hw; go_simp⟩) hHeld ?_
       simp only [Act.put, List.setIfInBounds_toArray, List.set_cons_zero, List.set_cons_succ]
       refine tk 2 39 (.agg #[.int .i64 (p.lo), .int .i64 (p.hi), .int .i64 (p.cl), .string (p.bg), .string (p.en)]) rfl (by kernel_rfl) (fun _ _ _ h => h) (.inl ⟨by rfl, fun w hw => by dsimp only at hw; go_simp⟩) hHeld ?_
       simp only [Act.put, List.setIfInBounds_toArray, List.set_cons_zero, List.set_cons_succ]
       refine tk 3 40 (.int .i64 (k)) rfl (by kernel_rfl) (fun _ _ _ h => h) (.inl ⟨by rfl, fun w hw => by dsimp only at hw; go_simp⟩) hHeld ?_
       simp only [Act.put, List.setIfInBounds_toArray, List.set_cons_zero, List.set_cons_succ]
       refine tk 4 41 (.pointer (some ⟨L, k * 5, none⟩)) rfl (by kernel_rfl) (fun _ _ _ h => h) (.inl ⟨by rfl, fun w hw => by dsimp only at hw; go_simp⟩) hHeld ?_
       simp only [Act.put, List.setIfInBounds_toArray, List.set_cons_zero, List.set_cons_succ]
       refine tk 5 42 (.agg #[.int .i64 (q.lo), .int .i64 (q.hi), .int .i64 (q.cl), .string (q.bg), .string (q.en)]) rfl (by kernel_rfl) (fun _ _ _ h => h) (.inl ⟨by rfl, fun w hw => by dsimp only at hw; go_simp⟩) hHeld ?_
       simp only [Act.put, List.setIfInBounds_toArray, List.set_cons_zero, List.set_cons_succ]
       refine wpAnyH_ready (rs := [6, 7]) (by kernel_rfl) (by simp) ?_
       refine AllReadyH.cons (o := ⟨some 43, _, _, _, _, _⟩) rfl (fun K hK => ?_) (AllReadyH.cons (o := ⟨some 11, _, _, _, _, _⟩) rfl (fun K hK => ?_) AllReadyH.nil)
       ·
        skip
        go_simp
        refine (Hj.out _).mono ?_
        rintro e Vd1 ⟨rfl, fd1⟩
        have HFd1 := Lib.hid (HX.out.trans fd1)
        refine hK.out _ _ ⟨fd1.cell hHeld.1 (fun h => h), fd1.cell hHeld.2.1 (fun h => h), fd1.cell hHeld.2.2.1 (fun h => h), fd1.cell hHeld.2.2.2.1 (fun h => h), fd1.cell hHeld.2.2.2.2.1 (fun h => h), fd1.cell hHeld.2.2.2.2.2.1 (fun h => h), fd1.cell hHeld.2.2.2.2.2.2.1 (fun h => h), fd1.cell hHeld.2.2.2.2.2.2.2.1 (fun h => h), fd1.cell hHeld.2.2.2.2.2.2.2.2.1 (fun h => h), fd1.cell hHeld.2.2.2.2.2.2.2.2.2.1 (fun h => h), fd1.heap hHeld.2.2.2.2.2.2.2.2.2.2 (fun h => h)⟩ (fun hHeld => ?_)
        clear hK K fd1 HX
        refine wpAnyH_ready (rs := [7]) (by kernel_rfl) (by simp) ?_
        refine AllReadyH.cons (o := ⟨some 11, _, _, _, _, _⟩) rfl (fun K hK => ?_) AllReadyH.nil
        go_simp
        have hrm := Res.start W6 _ HFd1.out
        have fd2 := (Frm.refl (fun _ => False) Vd1).alloc (.cells #[.int .i64 0, .int .i64 0, .int .i64 0, .string ⟨#[]⟩, .string ⟨#[]⟩] 24)
        have hnLm : L ≠ Vd1.heap.size := fun e => by have := World.block_lt_of_cell? _ _ hHeld.1; simp only at this; omega
        have hnmbm : mb ≠ Vd1.heap.size := fun e => by have := (Array.getElem?_eq_some_iff.1 (hHeld.2.2.2.2.2.2.2.2.2.2)).1; omega
        obtain ⟨Vd2, hVd2⟩ : ∃ V, V = Vd1.alloc (.cells #[.int .i64 0, .int .i64 0, .int .i64 0, .string ⟨#[]⟩, .string ⟨#[]⟩] 24) := ⟨_, rfl⟩
        obtain ⟨m, hmd2⟩ : ∃ m, m = Vd1.heap.size := ⟨_, rfl⟩
        rw [← hVd2, ← hmd2] at hrm
        rw [← hVd2] at fd2
        rw [← hmd2] at hnLm hnmbm
        rw [← hVd2, ← hmd2]
        clear hVd2 hmd2
        have HFd2 := Lib.hid (HFd1.out.trans fd2)
        refine hK.out _ _ ⟨fd2.cell hHeld.1 (fun h => h), fd2.cell hHeld.2.1 (fun h => h), fd2.cell hHeld.2.2.1 (fun h => h), fd2.cell hHeld.2.2.2.1 (fun h => h), fd2.cell hHeld.2.2.2.2.1 (fun h => h), fd2.cell hHeld.2.2.2.2.2.1 (fun h => h), fd2.cell hHeld.2.2.2.2.2.2.1 (fun h => h), fd2.cell hHeld.2.2.2.2.2.2.2.1 (fun h => h), fd2.cell hHeld.2.2.2.2.2.2.2.2.1 (fun h => h), fd2.cell hHeld.2.2.2.2.2.2.2.2.2.1 (fun h => h), fd2.heap hHeld.2.2.2.2.2.2.2.2.2.2 (fun h => h)⟩ (fun hHeld => ?_)
        clear hK K fd2 HFd1
        refine wpAnyH_ready (rs := [8]) (by kernel_rfl) (by simp) ?_
        refine AllReadyH.cons (o := ⟨none, _, _, _, _, _⟩) rfl (fun K hK => ?_) AllReadyH.nil
        have hrd3 := hrm
        obtain ⟨u0, u1, u2, u3, u4, ⟨c0, c1, c2, c3, c4⟩, z0, z1, z2, z3, z4⟩ := hrd3.facts
        go_simp
        clear c0 c1 c2 c3 c4 z0 z1 z2 z3 z4
        obtain ⟨Vd3, hVd3, hrowd3, hresd3, hcelld3, hheapd3⟩ := hrd3.put2 (.int .i64 (J.lo)) (.int .i64 (J.hi)) (.int .i64 (J.cl)) (.string (J.bg)) (.string (J.en))
        rw [hVd3]
        clear hVd3 hrd3
        refine hK.out _ _ ⟨hcelld3 _ _ _ hnLm hHeld.1, hcelld3 _ _ _ hnLm hHeld.2.1, hcelld3 _ _ _ hnLm hHeld.2.2.1, hcelld3 _ _ _ hnLm hHeld.2.2.2.1, hcelld3 _ _ _ hnLm hHeld.2.2.2.2.1, hcelld3 _ _ _ hnLm hHeld.2.2.2.2.2.1, hcelld3 _ _ _ hnLm hHeld.2.2.2.2.2.2.1, hcelld3 _ _ _ hnLm hHeld.2.2.2.2.2.2.2.1, hcelld3 _ _ _ hnLm hHeld.2.2.2.2.2.2.2.2.1, hcelld3 _ _ _ hnLm hHeld.2.2.2.2.2.2.2.2.2.1, (hheapd3 _ hnmbm).trans hHeld.2.2.2.2.2.2.2.2.2.2⟩ (fun hHeld => ?_)
        clear hK K hcelld3
        refine wpAnyH_done (by kernel_rfl) ?_ _
        obtain ⟨p0, p1, p2, p3, p4, q0, q1, q2, q3, q4, hmb⟩ := hHeld
        go_wp2_with fail
        go_meet
        case rel => exact ⟨m, rfl, hrowd3, hmb, hresd3.frm⟩
       ·
        skip
        go_simp
        have hrm := Res.start W6 _ HX.out
        have fd1 := (Frm.refl (fun _ => False) Yd).alloc (.cells #[.int .i64 0, .int .i64 0, .int .i64 0, .string ⟨#[]⟩, .string ⟨#[]⟩] 24)
        have hnLm : L ≠ Yd.heap.size := fun e => by have := World.block_lt_of_cell? _ _ hHeld.1; simp only at this; omega
        have hnmbm : mb ≠ Yd.heap.size := fun e => by have := (Array.getElem?_eq_some_iff.1 (hHeld.2.2.2.2.2.2.2.2.2.2)).1; omega
        obtain ⟨Vd1, hVd1⟩ : ∃ V, V = Yd.alloc (.cells #[.int .i64 0, .int .i64 0, .int .i64 0, .string ⟨#[]⟩, .string ⟨#[]⟩] 24) := ⟨_, rfl⟩
        obtain ⟨m, hmd1⟩ : ∃ m, m = Yd.heap.size := ⟨_, rfl⟩
        rw [← hVd1, ← hmd1] at hrm
        rw [← hVd1] at fd1
        rw [← hmd1] at hnLm hnmbm
        rw [← hVd1, ← hmd1]
        clear hVd1 hmd1
        have HFd1 := Lib.hid (HX.out.trans fd1)
        refine hK.out _ _ ⟨fd1.cell hHeld.1 (fun h => h), fd1.cell hHeld.2.1 (fun h => h), fd1.cell hHeld.2.2.1 (fun h => h), fd1.cell hHeld.2.2.2.1 (fun h => h), fd1.cell hHeld.2.2.2.2.1 (fun h => h), fd1.cell hHeld.2.2.2.2.2.1 (fun h => h), fd1.cell hHeld.2.2.2.2.2.2.1 (fun h => h), fd1.cell hHeld.2.2.2.2.2.2.2.1 (fun h => h), fd1.cell hHeld.2.2.2.2.2.2.2.2.1 (fun h => h), fd1.cell hHeld.2.2.2.2.2.2.2.2.2.1 (fun h => h), fd1.heap hHeld.2.2.2.2.2.2.2.2.2.2 (fun h => h)⟩ (fun hHeld => ?_)
        clear hK K fd1 HX
        refine wpAnyH_ready (rs := [6]) (by kernel_rfl) (by simp) ?_
        refine AllReadyH.cons (o := ⟨some 43, _, _, _, _, _⟩) rfl (fun K hK => ?_) AllReadyH.nil
        go_simp
        refine (Hj.out _).mono ?_
        rintro e Vd2 ⟨rfl, fd2⟩
        have HFd2 := Lib.hid (HFd1.out.trans fd2)
        have hrm := hrm.still fd2
        refine hK.out _ _ ⟨fd2.cell hHeld.1 (fun h => h), fd2.cell hHeld.2.1 (fun h => h), fd2.cell hHeld.2.2.1 (fun h => h), fd2.cell hHeld.2.2.2.1 (fun h => h), fd2.cell hHeld.2.2.2.2.1 (fun h => h), fd2.cell hHeld.2.2.2.2.2.1 (fun h => h), fd2.cell hHeld.2.2.2.2.2.2.1 (fun h => h), fd2.cell hHeld.2.2.2.2.2.2.2.1 (fun h => h), fd2.cell hHeld.2.2.2.2.2.2.2.2.1 (fun h => h), fd2.cell hHeld.2.2.2.2.2.2.2.2.2.1 (fun h => h), fd2.heap hHeld.2.2.2.2.2.2.2.2.2.2 (fun h => h)⟩ (fun hHeld => ?_)
        clear hK K fd2 HFd1
        refine wpAnyH_ready (rs := [8]) (by kernel_rfl) (by simp) ?_
        refine AllReadyH.cons (o := ⟨none, _, _, _, _, _⟩) rfl (fun K hK => ?_) AllReadyH.nil
        have hrd3 := hrm
        obtain ⟨u0, u1, u2, u3, u4, ⟨c0, c1, c2, c3, c4⟩, z0, z1, z2, z3, z4⟩ := hrd3.facts
        go_simp
        clear c0 c1 c2 c3 c4 z0 z1 z2 z3 z4
        obtain ⟨Vd3, hVd3, hrowd3, hresd3, hcelld3, hheapd3⟩ := hrd3.put2 (.int .i64 (J.lo)) (.int .i64 (J.hi)) (.int .i64 (J.cl)) (.string (J.bg)) (.string (J.en))
        rw [hVd3]
        clear hVd3 hrd3
        refine hK.out _ _ ⟨hcelld3 _ _ _ hnLm hHeld.1, hcelld3 _ _ _ hnLm hHeld.2.1, hcelld3 _ _ _ hnLm hHeld.2.2.1, hcelld3 _ _ _ hnLm hHeld.2.2.2.1, hcelld3 _ _ _ hnLm hHeld.2.2.2.2.1, hcelld3 _ _ _ hnLm hHeld.2.2.2.2.2.1, hcelld3 _ _ _ hnLm hHeld.2.2.2.2.2.2.1, hcelld3 _ _ _ hnLm hHeld.2.2.2.2.2.2.2.1, hcelld3 _ _ _ hnLm hHeld.2.2.2.2.2.2.2.2.1, hcelld3 _ _ _ hnLm hHeld.2.2.2.2.2.2.2.2.2.1, (hheapd3 _ hnmbm).trans hHeld.2.2.2.2.2.2.2.2.2.2⟩ (fun hHeld => ?_)
        clear hK K hcelld3
        refine wpAnyH_done (by kernel_rfl) ?_ _
        obtain ⟨p0, p1, p2, p3, p4, q0, q1, q2, q3, q4, hmb⟩ := hHeld
        go_wp2_with fail
        go_meet
        case rel => exact ⟨m, rfl, hrowd3, hmb, hresd3.frm⟩
      case rest =>
       clear hf hmb p0 p1 p2 p3 p4 q0 q1 q2 q3 q4 Hj
       obtain ⟨jb, rfl, hjb, hmb, hf⟩ := hcut
       obtain ⟨p0, p1, p2, p3, p4⟩ := Hpc.out _ hf
       obtain ⟨q0, q1, q2, q3, q4⟩ := Hqc.out _ hf
       go_upto_region 12 with fail
       have HX := Lib.hid hf.drew
       refine wp_region_held_drew (S := fun w' => w'.cell? ⟨L, i * 5, none⟩ = some (.int .i64 (p.lo)) ∧ w'.cell? ⟨L, i * 5 + 1, none⟩ = some (.int .i64 (p.hi)) ∧ w'.cell? ⟨L, i * 5 + 2, none⟩ = some (.int .i64 (p.cl)) ∧ w'.cell? ⟨L, i * 5 + 3, none⟩ = some (.string (p.bg)) ∧ w'.cell? ⟨L, i * 5 + 4, none⟩ = some (.string (p.en)) ∧ w'.cell? ⟨L, k * 5, none⟩ = some (.int .i64 (q.lo)) ∧ w'.cell? ⟨L, k * 5 + 1, none⟩ = some (.int .i64 (q.hi)) ∧ w'.cell? ⟨L, k * 5 + 2, none⟩ = some (.int .i64 (q.cl)) ∧ w'.cell? ⟨L, k * 5 + 3, none⟩ = some (.string (q.bg)) ∧ w'.cell? ⟨L, k * 5 + 4, none⟩ = some (.string (q.en)) ∧ w'.heap[mb]? = some (.cells #[.int .i64 (M.lo), .int .i64 (M.hi), .int .i64 (M.cl), .string (M.bg), .string (M.en)] 24 (0, 0)) ∧ w'.heap[jb]? = some (.cells #[.int .i64 (J.lo), .int .i64 (J.hi), .int .i64 (J.cl), .string (J.bg), .string (J.en)] 24 (0, 0))) (by kernel_rfl) ⟨p0, p1, p2, p3, p4, q0, q1, q2, q3, q4, hmb, hjb⟩ (fun hHeld => ?_)
       refine tk 0 44 (.int .i64 (i)) rfl (by kernel_rfl) (fun _ _ _ h => h) (.inl ⟨by rfl, fun w hw => by dsimp only at hw; go_simp⟩) hHeld ?_
       simp only [Act.put, List.setIfInBounds_toArray, List.set_cons_zero, List.set_cons_succ]
       refine tk 1 45 (.pointer (some ⟨L, i * 5, none⟩)) rfl (by kernel_rfl) (fun _ _ _ h => h) (.inl ⟨by rfl, fun w hw => by dsimp only at hw; go_simp⟩) hHeld ?_
       simp only [Act.put, List.setIfInBounds_toArray, List.set_cons_zero, List.set_cons_succ]
       refine tk 2 46 (.agg #[.int .i64 (p.lo), .int .i64 (p.hi), .int .i64 (p.cl), .string (p.bg), .string (p.en)]) rfl (by kernel_rfl) (fun _ _ _ h => h) (.inl ⟨by rfl, fun w hw => by dsimp only at hw; go_simp⟩) hHeld ?_
       simp only [Act.put, List.setIfInBounds_toArray, List.set_cons_zero, List.set_cons_succ]
       refine tk 3 47 (.int .i64 (k)) rfl (by kernel_rfl) (fun _ _ _ h => h) (.inl ⟨by rfl, fun w hw => by dsimp only at hw; go_simp⟩) hHeld ?_
       simp only [Act.put, List.setIfInBounds_toArray, List.set_cons_zero, List.set_cons_succ]
       refine tk 4 48 (.pointer (some ⟨L, k * 5, none⟩)) rfl (by kernel_rfl) (fun _ _ _ h => h) (.inl ⟨by rfl, fun w hw => by dsimp only at hw; go_simp⟩) hHeld ?_
       simp only [Act.put, List.setIfInBounds_toArray, List.set_cons_zero, List.set_cons_succ]
       refine tk 5 49 (.agg #[.int .i64 (q.lo), .int .i64 (q.hi), .int .i64 (q.cl), .string (q.bg), .string (q.en)]) rfl (by kernel_rfl) (fun _ _ _ h => h) (.inl ⟨by rfl, fun w hw => by dsimp only at hw; go_simp⟩) hHeld ?_
       simp only [Act.put, List.setIfInBounds_toArray, List.set_cons_zero, List.set_cons_succ]
       refine wpAnyH_ready (rs := [6]) (by kernel_rfl) (by simp) ?_
       refine AllReadyH.cons (o := ⟨some 50, _, _, _, _, _⟩) rfl (fun K hK => ?_) AllReadyH.nil
       go_simp
       refine (Hv.out _).mono ?_
       rintro e Ve1 ⟨rfl, fe1⟩
       have HFe1 := Lib.hid (HX.out.trans fe1)
       refine hK.out _ _ ⟨fe1.cell hHeld.1 (fun h => h), fe1.cell hHeld.2.1 (fun h => h), fe1.cell hHeld.2.2.1 (fun h => h), fe1.cell hHeld.2.2.2.1 (fun h => h), fe1.cell hHeld.2.2.2.2.1 (fun h => h), fe1.cell hHeld.2.2.2.2.2.1 (fun h => h), fe1.cell hHeld.2.2.2.2.2.2.1 (fun h => h), fe1.cell hHeld.2.2.2.2.2.2.2.1 (fun h => h), fe1.cell hHeld.2.2.2.2.2.2.2.2.1 (fun h => h), fe1.cell hHeld.2.2.2.2.2.2.2.2.2.1 (fun h => h), fe1.heap hHeld.2.2.2.2.2.2.2.2.2.2.1 (fun h => h), fe1.heap hHeld.2.2.2.2.2.2.2.2.2.2.2 (fun h => h)⟩ (fun hHeld => ?_)
       clear hK K fe1 HX
       refine tk 7 12 (.bool (wi)) rfl (by kernel_rfl) (fun _ _ _ h => h) (.inl ⟨by rfl, fun w hw => by dsimp only at hw; go_simp⟩) hHeld ?_
       simp only [Act.put, List.setIfInBounds_toArray, List.set_cons_zero, List.set_cons_succ]
       refine wpAnyH_done (by kernel_rfl) ?_ _
       obtain ⟨p0, p1, p2, p3, p4, q0, q1, q2, q3, q4, hmb, hjb⟩ := hHeld
       have hf := HFe1.out
       clear HFe1 Hv p0 p1 p2 p3 p4 q0 q1 q2 q3 q4
       have HMb := Lib.hid hmb
       have HJb := Lib.hid hjb
       have Hf7 := Lib.hid hf
       clear hmb hjb hf
       go_wp2_with fail
       go_loopw [13] (fun s wr => ∃ j : Nat, s = .int .i64 j ∧ j ≤ ts.length ∧ Frm (fun _ => False) Ve1 wr) (fun s _ => ts.length - (intOf s).toNat)
       case atStart => exact ⟨0, rfl, Nat.zero_le _, Frm.refl _ _⟩
       case round =>
        obtain ⟨j, rfl, hj, hf⟩ := hrel
        by_cases hjl : j < ts.length
        ·
         have hjI : (j : Int) < (ts.length : Int) := by omega
         have hf6 := Hf7.out.trans hf
         obtain ⟨p0, p1, p2, p3, p4⟩ := Hpc.out _ hf6
         obtain ⟨q0, q1, q2, q3, q4⟩ := Hqc.out _ hf6
         obtain ⟨tg, hao, ht⟩ := (Hts.out.frm hf6 fun _ _ h => h).at' j hjl
         subst hao
         obtain ⟨T, hT⟩ : ∃ T : ByteArray, strV ts[j] = .string T ∧ T.size ≤ 200 := ⟨⟨ts[j].toArray⟩, rfl, by show ts[j].toArray.size ≤ 200; rw [List.size_toArray]; exact Htx.out _ (List.getElem_mem hjl)⟩
         rw [hT.1] at ht
         have hTz := hT.2
         clear hT
         have hcp := Hcp.out T (by omega)
         have hcq := Hcq.out T (by omega)
         have hcj := Hcj.out T (by omega)
         have hcm := Hcm.out T (by omega)
         obtain ⟨k1, k2, k3, k4⟩ := Hok.out T
         rw [k1] at hcm
         generalize ip T.data.toList = al at *
         generalize iq T.data.toList = be at *
         generalize ij T.data.toList = ga at *
         have hmb := hf.heap HMb.out (fun h => h)
         have hjb := hf.heap HJb.out (fun h => h)
         have Hcp1 := Lib.hid hcp
         have Hcq1 := Lib.hid hcq
         have Hcj1 := Lib.hid hcj
         have Hcm1 := Lib.hid hcm
         clear hcp hcq hcj hcm k1
         go_upto_region 16 with fail
         have HX := Lib.hid (hf).drew
         refine wp_region_held_drew (S := fun w' => w'.cell? ⟨L, i * 5, none⟩ = some (.int .i64 (p.lo)) ∧ w'.cell? ⟨L, i * 5 + 1, none⟩ = some (.int .i64 (p.hi)) ∧ w'.cell? ⟨L, i * 5 + 2, none⟩ = some (.int .i64 (p.cl)) ∧ w'.cell? ⟨L, i * 5 + 3, none⟩ = some (.string (p.bg)) ∧ w'.cell? ⟨L, i * 5 + 4, none⟩ = some (.string (p.en)) ∧ w'.cell? ⟨L, k * 5, none⟩ = some (.int .i64 (q.lo)) ∧ w'.cell? ⟨L, k * 5 + 1, none⟩ = some (.int .i64 (q.hi)) ∧ w'.cell? ⟨L, k * 5 + 2, none⟩ = some (.int .i64 (q.cl)) ∧ w'.cell? ⟨L, k * 5 + 3, none⟩ = some (.string (q.bg)) ∧ w'.cell? ⟨L, k * 5 + 4, none⟩ = some (.string (q.en)) ∧ w'.cell? ⟨tg, j, none⟩ = some (.string (T)) ∧ w'.heap[mb]? = some (.cells #[.int .i64 (M.lo), .int .i64 (M.hi), .int .i64 (M.cl), .string (M.bg), .string (M.en)] 24 (0, 0)) ∧ w'.heap[jb]? = some (.cells #[.int .i64 (J.lo), .int .i64 (J.hi), .int .i64 (J.cl), .string (J.bg), .string (J.en)] 24 (0, 0))) (by kernel_rfl) ⟨p0, p1, p2, p3, p4, q0, q1, q2, q3, q4, ht, hmb, hjb⟩ (fun hHeld => ?_)
         refine tk 0 57 (.int .i64 (i)) rfl (by kernel_rfl) (fun _ _ _ h => h) (.inl ⟨by rfl, fun w hw => by dsimp only at hw; go_simp⟩) hHeld ?_
         simp only [Act.put, List.setIfInBounds_toArray, List.set_cons_zero, List.set_cons_succ]
         refine tk 1 58 (.pointer (some ⟨L, i * 5, none⟩)) rfl (by kernel_rfl) (fun _ _ _ h => h) (.inl ⟨by rfl, fun w hw => by dsimp only at hw; go_simp⟩) hHeld ?_
         simp only [Act.put, List.setIfInBounds_toArray, List.set_cons_zero, List.set_cons_succ]
         refine tk 2 59 (.agg #[.int .i64 (p.lo), .int .i64 (p.hi), .int .i64 (p.cl), .string (p.bg), .string (p.en)]) rfl (by kernel_rfl) (fun _ _ _ h => h) (.inl ⟨by rfl, fun w hw => by dsimp only at hw; go_simp⟩) hHeld ?_
         simp only [Act.put, List.setIfInBounds_toArray, List.set_cons_zero, List.set_cons_succ]
         refine tk 3 60 (.slice (some ⟨tg, 0, none⟩) ts.length cap9) rfl (by kernel_rfl) (fun _ _ _ h => h) (.inl ⟨by rfl, fun w hw => by dsimp only at hw; go_simp⟩) hHeld ?_
         simp only [Act.put, List.setIfInBounds_toArray, List.set_cons_zero, List.set_cons_succ]
         refine tk 4 61 (.int .i64 (j)) rfl (by kernel_rfl) (fun _ _ _ h => h) (.inl ⟨by rfl, fun w hw => by dsimp only at hw; go_simp⟩) hHeld ?_
         simp only [Act.put, List.setIfInBounds_toArray, List.set_cons_zero, List.set_cons_succ]
         refine tk 5 62 (.pointer (some ⟨tg, j, none⟩)) rfl (by kernel_rfl) (fun _ _ _ h => h) (.inl ⟨by rfl, fun w hw => by dsimp only at hw; go_simp⟩) hHeld ?_
         simp only [Act.put, List.setIfInBounds_toArray, List.set_cons_zero, List.set_cons_succ]
         refine tk 6 63 (.string (T)) rfl (by kernel_rfl) (fun _ _ _ h => h) (.inl ⟨by rfl, fun w hw => by dsimp only at hw; go_simp⟩) hHeld ?_
         simp only [Act.put, List.setIfInBounds_toArray, List.set_cons_zero, List.set_cons_succ]
         refine wpAnyH_ready (rs := [7]) (by kernel_rfl) (by simp) ?_
         refine AllReadyH.cons (o := ⟨some 64, _, _, _, _, _⟩) rfl (fun K hK => ?_) AllReadyH.nil
         go_simp
         refine (Hcp1.out _).mono ?_
         rintro e Vf1 ⟨rfl, ff1⟩
         have HFf1 := Lib.hid (HX.out.trans ff1)
         refine hK.out _ _ ⟨ff1.cell hHeld.1 (fun h => h), ff1.cell hHeld.2.1 (fun h => h), ff1.cell hHeld.2.2.1 (fun h => h), ff1.cell hHeld.2.2.2.1 (fun h => h), ff1.cell hHeld.2.2.2.2.1 (fun h => h), ff1.cell hHeld.2.2.2.2.2.1 (fun h => h), ff1.cell hHeld.2.2.2.2.2.2.1 (fun h => h), ff1.cell hHeld.2.2.2.2.2.2.2.1 (fun h => h), ff1.cell hHeld.2.2.2.2.2.2.2.2.1 (fun h => h), ff1.cell hHeld.2.2.2.2.2.2.2.2.2.1 (fun h => h), ff1.cell hHeld.2.2.2.2.2.2.2.2.2.2.1 (fun h => h), ff1.heap hHeld.2.2.2.2.2.2.2.2.2.2.2.1 (fun h => h), ff1.heap hHeld.2.2.2.2.2.2.2.2.2.2.2.2 (fun h => h)⟩ (fun hHeld => ?_)
         clear hK K ff1 HX
         refine tk 8 14 (.bool (al)) rfl (by kernel_rfl) (fun _ _ _ h => h) (.inl ⟨by rfl, fun w hw => by dsimp only at hw; go_simp⟩) hHeld ?_
         simp only [Act.put, List.setIfInBounds_toArray, List.set_cons_zero, List.set_cons_succ]
         refine wpAnyH_done (by kernel_rfl) ?_ _
         obtain ⟨p0, p1, p2, p3, p4, q0, q1, q2, q3, q4, ht, hmb, hjb⟩ := hHeld
         go_upto_region 17 with fail
         have HX2 := Lib.hid (HFf1.out).drew
         refine wp_region_held_drew (S := fun w' => w'.cell? ⟨L, i * 5, none⟩ = some (.int .i64 (p.lo)) ∧ w'.cell? ⟨L, i * 5 + 1, none⟩ = some (.int .i64 (p.hi)) ∧ w'.cell? ⟨L, i * 5 + 2, none⟩ = some (.int .i64 (p.cl)) ∧ w'.cell? ⟨L, i * 5 + 3, none⟩ = some (.string (p.bg)) ∧ w'.cell? ⟨L, i * 5 + 4, none⟩ = some (.string (p.en)) ∧ w'.cell? ⟨L, k * 5, none⟩ = some (.int .i64 (q.lo)) ∧ w'.cell? ⟨L, k * 5 + 1, none⟩ = some (.int .i64 (q.hi)) ∧ w'.cell? ⟨L, k * 5 + 2, none⟩ = some (.int .i64 (q.cl)) ∧ w'.cell? ⟨L, k * 5 + 3, none⟩ = some (.string (q.bg)) ∧ w'.cell? ⟨L, k * 5 + 4, none⟩ = some (.string (q.en)) ∧ w'.cell? ⟨tg, j, none⟩ = some (.string (T)) ∧ w'.heap[mb]? = some (.cells #[.int .i64 (M.lo), .int .i64 (M.hi), .int .i64 (M.cl), .string (M.bg), .string (M.en)] 24 (0, 0)) ∧ w'.heap[jb]? = some (.cells #[.int .i64 (J.lo), .int .i64 (J.hi), .int .i64 (J.cl), .string (J.bg), .string (J.en)] 24 (0, 0))) (by kernel_rfl) ⟨p0, p1, p2, p3, p4, q0, q1, q2, q3, q4, ht, hmb, hjb⟩ (fun hHeld => ?_)
         refine tk 0 65 (.int .i64 (k)) rfl (by kernel_rfl) (fun _ _ _ h => h) (.inl ⟨by rfl, fun w hw => by dsimp only at hw; go_simp⟩) hHeld ?_
         simp only [Act.put, List.setIfInBounds_toArray, List.set_cons_zero, List.set_cons_succ]
         refine tk 1 66 (.pointer (some ⟨L, k * 5, none⟩)) rfl (by kernel_rfl) (fun _ _ _ h => h) (.inl ⟨by rfl, fun w hw => by dsimp only at hw; go_simp⟩) hHeld ?_
         simp only [Act.put, List.setIfInBounds_toArray, List.set_cons_zero, List.set_cons_succ]
         refine tk 2 67 (.agg #[.int .i64 (q.lo), .int .i64 (q.hi), .int .i64 (q.cl), .string (q.bg), .string (q.en)]) rfl (by kernel_rfl) (fun _ _ _ h => h) (.inl ⟨by rfl, fun w hw => by dsimp only at hw; go_simp⟩) hHeld ?_
         simp only [Act.put, List.setIfInBounds_toArray, List.set_cons_zero, List.set_cons_succ]
         refine tk 3 68 (.slice (some ⟨tg, 0, none⟩) ts.length cap9) rfl (by kernel_rfl) (fun _ _ _ h => h) (.inl ⟨by rfl, fun w hw => by dsimp only at hw; go_simp⟩) hHeld ?_
         simp only [Act.put, List.setIfInBounds_toArray, List.set_cons_zero, List.set_cons_succ]
         refine tk 4 69 (.int .i64 (j)) rfl (by kernel_rfl) (fun _ _ _ h => h) (.inl ⟨by rfl, fun w hw => by dsimp only at hw; go_simp⟩) hHeld ?_
         simp only [Act.put, List.setIfInBounds_toArray, List.set_cons_zero, List.set_cons_succ]
         refine tk 5 70 (.pointer (some ⟨tg, j, none⟩)) rfl (by kernel_rfl) (fun _ _ _ h => h) (.inl ⟨by rfl, fun w hw => by dsimp only at hw; go_simp⟩) hHeld ?_
         simp only [Act.put, List.setIfInBounds_toArray, List.set_cons_zero, List.set_cons_succ]
         refine tk 6 71 (.string (T)) rfl (by kernel_rfl) (fun _ _ _ h => h) (.inl ⟨by rfl, fun w hw => by dsimp only at hw; go_simp⟩) hHeld ?_
         simp only [Act.put, List.setIfInBounds_toArray, List.set_cons_zero, List.set_cons_succ]
         refine wpAnyH_ready (rs := [7]) (by kernel_rfl) (by simp) ?_
         refine AllReadyH.cons (o := ⟨some 72, _, _, _, _, _⟩) rfl (fun K hK => ?_) AllReadyH.nil
         go_simp
         refine (Hcq1.out _).mono ?_
         rintro e Vg1 ⟨rfl, fg1⟩
         have HFg1 := Lib.hid (HX2.out.trans fg1)
         refine hK.out _ _ ⟨fg1.cell hHeld.1 (fun h => h), fg1.cell hHeld.2.1 (fun h => h), fg1.cell hHeld.2.2.1 (fun h => h), fg1.cell hHeld.2.2.2.1 (fun h => h), fg1.cell hHeld.2.2.2.2.1 (fun h => h), fg1.cell hHeld.2.2.2.2.2.1 (fun h => h), fg1.cell hHeld.2.2.2.2.2.2.1 (fun h => h), fg1.cell hHeld.2.2.2.2.2.2.2.1 (fun h => h), fg1.cell hHeld.2.2.2.2.2.2.2.2.1 (fun h => h), fg1.cell hHeld.2.2.2.2.2.2.2.2.2.1 (fun h => h), fg1.cell hHeld.2.2.2.2.2.2.2.2.2.2.1 (fun h => h), fg1.heap hHeld.2.2.2.2.2.2.2.2.2.2.2.1 (fun h => h), fg1.heap hHeld.2.2.2.2.2.2.2.2.2.2.2.2 (fun h => h)⟩ (fun hHeld => ?_)
         clear hK K fg1 HX2
         refine tk 8 15 (.bool (be)) rfl (by kernel_rfl) (fun _ _ _ h => h) (.inl ⟨by rfl, fun w hw => by dsimp only at hw; go_simp⟩) hHeld ?_
         simp only [Act.put, List.setIfInBounds_toArray, List.set_cons_zero, List.set_cons_succ]
         refine wpAnyH_done (by kernel_rfl) ?_ _
         obtain ⟨p0, p1, p2, p3, p4, q0, q1, q2, q3, q4, ht, hmb, hjb⟩ := hHeld
         have Hf9 := Lib.hid HFg1.out
         clear HFg1 hf hf6 Hcp1 Hcq1
         obtain ⟨⟨m0c, m1c, m2c, m3c, m4c⟩, -⟩ := row_facts hmb
         obtain ⟨⟨j0c, j1c, j2c, j3c, j4c⟩, -⟩ := row_facts hjb
         clear hmb hjb p0 p1 p2 p3 p4 q0 q1 q2 q3 q4
         go_upto_region 18 with fail
         cases al
         ·
          cases be
          ·
           cases wi
           ·
            skip
            clear k2 k3 k4
            have HZ := Lib.hid Hf9.out.drew
            refine wp_region_held_drew (S := fun w' => w'.cell? ⟨mb, 0, none⟩ = some (.int .i64 (M.lo)) ∧ w'.cell? ⟨mb, 1, none⟩ = some (.int .i64 (M.hi)) ∧ w'.cell? ⟨mb, 2, none⟩ = some (.int .i64 (M.cl)) ∧ w'.cell? ⟨mb, 3, none⟩ = some (.string (M.bg)) ∧ w'.cell? ⟨mb, 4, none⟩ = some (.string (M.en)) ∧ w'.cell? ⟨jb, 0, none⟩ = some (.int .i64 (J.lo)) ∧ w'.cell? ⟨jb, 1, none⟩ = some (.int .i64 (J.hi)) ∧ w'.cell? ⟨jb, 2, none⟩ = some (.int .i64 (J.cl)) ∧ w'.cell? ⟨jb, 3, none⟩ = some (.string (J.bg)) ∧ w'.cell? ⟨jb, 4, none⟩ = some (.string (J.en)) ∧ w'.cell? ⟨tg, j, none⟩ = some (.string (T))) (by kernel_rfl) ⟨m0c, m1c, m2c, m3c, m4c, j0c, j1c, j2c, j3c, j4c, ht⟩ (fun hHeld => ?_)
            refine tk 0 73 (.agg #[.int .i64 (M.lo), .int .i64 (M.hi), .int .i64 (M.cl), .string (M.bg), .string (M.en)]) rfl (by kernel_rfl) (fun _ _ _ h => h) (.inl ⟨by rfl, fun w hw => by dsimp only at hw; go_simp⟩) hHeld ?_
            simp only [Act.put, List.setIfInBounds_toArray, List.set_cons_zero, List.set_cons_succ]
            refine tk 1 74 (.slice (some ⟨tg, 0, none⟩) ts.length cap9) rfl (by kernel_rfl) (fun _ _ _ h => h) (.inl ⟨by rfl, fun w hw => by dsimp only at hw; go_simp⟩) hHeld ?_
            simp only [Act.put, List.setIfInBounds_toArray, List.set_cons_zero, List.set_cons_succ]
            refine tk 2 75 (.int .i64 (j)) rfl (by kernel_rfl) (fun _ _ _ h => h) (.inl ⟨by rfl, fun w hw => by dsimp only at hw; go_simp⟩) hHeld ?_
            simp only [Act.put, List.setIfInBounds_toArray, List.set_cons_zero, List.set_cons_succ]
            refine tk 3 76 (.pointer (some ⟨tg, j, none⟩)) rfl (by kernel_rfl) (fun _ _ _ h => h) (.inl ⟨by rfl, fun w hw => by dsimp only at hw; go_simp⟩) hHeld ?_
            simp only [Act.put, List.setIfInBounds_toArray, List.set_cons_zero, List.set_cons_succ]
            refine tk 4 77 (.string (T)) rfl (by kernel_rfl) (fun _ _ _ h => h) (.inl ⟨by rfl, fun w hw => by dsimp only at hw; go_simp⟩) hHeld ?_
            simp only [Act.put, List.setIfInBounds_toArray, List.set_cons_zero, List.set_cons_succ]
            refine tk 6 79 (.bool (false)) rfl (by kernel_rfl) (fun _ _ _ h => h) (.inl ⟨by rfl, fun w hw => by dsimp only at hw; go_simp⟩) hHeld ?_
            simp only [Act.put, List.setIfInBounds_toArray, List.set_cons_zero, List.set_cons_succ]
            refine wpAnyH_ready (rs := [5]) (by kernel_rfl) (by simp) ?_
            refine AllReadyH.cons (o := ⟨some 78, _, _, _, _, _⟩) rfl (fun K hK => ?_) AllReadyH.nil
            go_simp
            refine (Hcm1.out _).mono ?_
            rintro e Vh1 ⟨rfl, fh1⟩
            have HFh1 := Lib.hid (HZ.out.trans fh1)
            refine hK.out _ _ ⟨fh1.cell hHeld.1 (fun h => h), fh1.cell hHeld.2.1 (fun h => h), fh1.cell hHeld.2.2.1 (fun h => h), fh1.cell hHeld.2.2.2.1 (fun h => h), fh1.cell hHeld.2.2.2.2.1 (fun h => h), fh1.cell hHeld.2.2.2.2.2.1 (fun h => h), fh1.cell hHeld.2.2.2.2.2.2.1 (fun h => h), fh1.cell hHeld.2.2.2.2.2.2.2.1 (fun h => h), fh1.cell hHeld.2.2.2.2.2.2.2.2.1 (fun h => h), fh1.cell hHeld.2.2.2.2.2.2.2.2.2.1 (fun h => h), fh1.cell hHeld.2.2.2.2.2.2.2.2.2.2 (fun h => h)⟩ (fun hHeld => ?_)
            clear hK K fh1 HZ
            refine tk 7 80 (.bool (false)) rfl (by kernel_rfl) (fun _ _ _ h => h) (.inl ⟨by rfl, fun w hw => by dsimp only at hw; go_simp⟩) hHeld ?_
            simp only [Act.put, List.setIfInBounds_toArray, List.set_cons_zero, List.set_cons_succ]
            refine tk 8 81 _ rfl (by kernel_rfl) (fun _ _ _ h => h) (.inr ⟨by rfl, rfl⟩) hHeld ?_
            simp only [Act.put, List.setIfInBounds_toArray, List.set_cons_zero, List.set_cons_succ]
            refine tk 9 82 (.bool (false)) rfl (by kernel_rfl) (fun _ _ _ h => h) (.inl ⟨by rfl, fun w hw => by dsimp only at hw; go_simp⟩) hHeld ?_
            simp only [Act.put, List.setIfInBounds_toArray, List.set_cons_zero, List.set_cons_succ]
            refine tk 10 83 (.bool (false)) rfl (by kernel_rfl) (fun _ _ _ h => h) (.inl ⟨by rfl, fun w hw => by dsimp only at hw; go_simp⟩) hHeld ?_
            simp only [Act.put, List.setIfInBounds_toArray, List.set_cons_zero, List.set_cons_succ]
            refine tk 11 84 (.bool (false)) rfl (by kernel_rfl) (fun _ _ _ h => h) (.inl ⟨by rfl, fun w hw => by dsimp only at hw; go_simp⟩) hHeld ?_
            simp only [Act.put, List.setIfInBounds_toArray, List.set_cons_zero, List.set_cons_succ]
            refine tk 12 85 (.bool (false)) rfl (by kernel_rfl) (fun _ _ _ h => h) (.inl ⟨by rfl, fun w hw => by dsimp only at hw; go_simp⟩) hHeld ?_
            simp only [Act.put, List.setIfInBounds_toArray, List.set_cons_zero, List.set_cons_succ]
            refine tk 13 86 (.bool (false)) rfl (by kernel_rfl) (fun _ _ _ h => h) (.inl ⟨by rfl, fun w hw => by dsimp only at hw; go_simp⟩) hHeld ?_
            simp only [Act.put, List.setIfInBounds_toArray, List.set_cons_zero, List.set_cons_succ]
            refine tk 14 87 (.bool (false)) rfl (by kernel_rfl) (fun _ _ _ h => h) (.inl ⟨by rfl, fun w hw => by dsimp only at hw; go_simp⟩) hHeld ?_
            simp only [Act.put, List.setIfInBounds_toArray, List.set_cons_zero, List.set_cons_succ]
            refine tk 15 88 (.bool (false)) rfl (by kernel_rfl) (fun _ _ _ h => h) (.inl ⟨by rfl, fun w hw => by dsimp only at hw; go_simp⟩) hHeld ?_
            simp only [Act.put, List.setIfInBounds_toArray, List.set_cons_zero, List.set_cons_succ]
            refine tk 16 89 (.bool (false)) rfl (by kernel_rfl) (fun _ _ _ h => h) (.inl ⟨by rfl, fun w hw => by dsimp only at hw; go_simp⟩) hHeld ?_
            simp only [Act.put, List.setIfInBounds_toArray, List.set_cons_zero, List.set_cons_succ]
            refine tk 17 90 _ rfl (by kernel_rfl) (fun _ _ _ h => h) (.inr ⟨by rfl, rfl⟩) hHeld ?_
            simp only [Act.put, List.setIfInBounds_toArray, List.set_cons_zero, List.set_cons_succ]
            refine tk 18 91 _ rfl (by kernel_rfl) (fun _ _ _ h => h) (.inr ⟨by rfl, rfl⟩) hHeld ?_
            simp only [Act.put, List.setIfInBounds_toArray, List.set_cons_zero, List.set_cons_succ]
            refine tk 19 92 _ rfl (by kernel_rfl) (fun _ _ _ h => h) (.inr ⟨by rfl, rfl⟩) hHeld ?_
            simp only [Act.put, List.setIfInBounds_toArray, List.set_cons_zero, List.set_cons_succ]
            refine tk 20 93 _ rfl (by kernel_rfl) (fun _ _ _ h => h) (.inr ⟨by rfl, rfl⟩) hHeld ?_
            simp only [Act.put, List.setIfInBounds_toArray, List.set_cons_zero, List.set_cons_succ]
            refine tk 21 94 _ rfl (by kernel_rfl) (fun _ _ _ h => h) (.inr ⟨by rfl, rfl⟩) hHeld ?_
            simp only [Act.put, List.setIfInBounds_toArray, List.set_cons_zero, List.set_cons_succ]
            refine tk 22 95 _ rfl (by kernel_rfl) (fun _ _ _ h => h) (.inr ⟨by rfl, rfl⟩) hHeld ?_
            simp only [Act.put, List.setIfInBounds_toArray, List.set_cons_zero, List.set_cons_succ]
            refine tk 23 96 _ rfl (by kernel_rfl) (fun _ _ _ h => h) (.inr ⟨by rfl, rfl⟩) hHeld ?_
            simp only [Act.put, List.setIfInBounds_toArray, List.set_cons_zero, List.set_cons_succ]
            refine tk 24 97 (.bool (false)) rfl (by kernel_rfl) (fun _ _ _ h => h) (.inl ⟨by rfl, fun w hw => by dsimp only at hw; go_simp⟩) hHeld ?_
            simp only [Act.put, List.setIfInBounds_toArray, List.set_cons_zero, List.set_cons_succ]
            refine tk 25 98 (.bool (false)) rfl (by kernel_rfl) (fun _ _ _ h => h) (.inl ⟨by rfl, fun w hw => by dsimp only at hw; go_simp⟩) hHeld ?_
            simp only [Act.put, List.setIfInBounds_toArray, List.set_cons_zero, List.set_cons_succ]
            refine tk 26 99 (.bool (false)) rfl (by kernel_rfl) (fun _ _ _ h => h) (.inl ⟨by rfl, fun w hw => by dsimp only at hw; go_simp⟩) hHeld ?_
            simp only [Act.put, List.setIfInBounds_toArray, List.set_cons_zero, List.set_cons_succ]
            refine tk 27 100 (.bool (false)) rfl (by kernel_rfl) (fun _ _ _ h => h) (.inl ⟨by rfl, fun w hw => by dsimp only at hw; go_simp⟩) hHeld ?_
            simp only [Act.put, List.setIfInBounds_toArray, List.set_cons_zero, List.set_cons_succ]
            refine tk 28 101 (.bool (false)) rfl (by kernel_rfl) (fun _ _ _ h => h) (.inl ⟨by rfl, fun w hw => by dsimp only at hw; go_simp⟩) hHeld ?_
            simp only [Act.put, List.setIfInBounds_toArray, List.set_cons_zero, List.set_cons_succ]
            refine tk 29 102 _ rfl (by kernel_rfl) (fun _ _ _ h => h) (.inr ⟨by rfl, rfl⟩) hHeld ?_
            simp only [Act.put, List.setIfInBounds_toArray, List.set_cons_zero, List.set_cons_succ]
            refine tk 30 103 (.bool (false)) rfl (by kernel_rfl) (fun _ _ _ h => h) (.inl ⟨by rfl, fun w hw => by dsimp only at hw; go_simp⟩) hHeld ?_
            simp only [Act.put, List.setIfInBounds_toArray, List.set_cons_zero, List.set_cons_succ]
            refine tk 31 104 (.bool (false)) rfl (by kernel_rfl) (fun _ _ _ h => h) (.inl ⟨by rfl, fun w hw => by dsimp only at hw; go_simp⟩) hHeld ?_
            simp only [Act.put, List.setIfInBounds_toArray, List.set_cons_zero, List.set_cons_succ]
            refine tk 32 105 _ rfl (by kernel_rfl) (fun _ _ _ h => h) (.inr ⟨by rfl, rfl⟩) hHeld ?_
            simp only [Act.put, List.setIfInBounds_toArray, List.set_cons_zero, List.set_cons_succ]
            refine tk 33 106 _ rfl (by kernel_rfl) (fun _ _ _ h => h) (.inr ⟨by rfl, rfl⟩) hHeld ?_
            simp only [Act.put, List.setIfInBounds_toArray, List.set_cons_zero, List.set_cons_succ]
            refine tk 34 107 (.bool (false)) rfl (by kernel_rfl) (fun _ _ _ h => h) (.inl ⟨by rfl, fun w hw => by dsimp only at hw; go_simp⟩) hHeld ?_
            simp only [Act.put, List.setIfInBounds_toArray, List.set_cons_zero, List.set_cons_succ]
            refine tk 35 108 (.bool (false)) rfl (by kernel_rfl) (fun _ _ _ h => h) (.inl ⟨by rfl, fun w hw => by dsimp only at hw; go_simp⟩) hHeld ?_
            simp only [Act.put, List.setIfInBounds_toArray, List.set_cons_zero, List.set_cons_succ]
            refine wpAnyH_done (by kernel_rfl) ?_ _
            have Hfe := Lib.hid HFh1.out
            clear HFh1 hHeld Hf9 ht m0c m1c m2c m3c m4c j0c j1c j2c j3c j4c
            go_wp2_with fail
            go_roundw
            case rel => exact ⟨j + 1, by go_num, hjl, Hfe.out⟩
            case measure => simp [intOf]; omega
           ·
            skip
            clear k2 k3 k4
            have HZ := Lib.hid Hf9.out.drew
            refine wp_region_held_drew (S := fun w' => w'.cell? ⟨mb, 0, none⟩ = some (.int .i64 (M.lo)) ∧ w'.cell? ⟨mb, 1, none⟩ = some (.int .i64 (M.hi)) ∧ w'.cell? ⟨mb, 2, none⟩ = some (.int .i64 (M.cl)) ∧ w'.cell? ⟨mb, 3, none⟩ = some (.string (M.bg)) ∧ w'.cell? ⟨mb, 4, none⟩ = some (.string (M.en)) ∧ w'.cell? ⟨jb, 0, none⟩ = some (.int .i64 (J.lo)) ∧ w'.cell? ⟨jb, 1, none⟩ = some (.int .i64 (J.hi)) ∧ w'.cell? ⟨jb, 2, none⟩ = some (.int .i64 (J.cl)) ∧ w'.cell? ⟨jb, 3, none⟩ = some (.string (J.bg)) ∧ w'.cell? ⟨jb, 4, none⟩ = some (.string (J.en)) ∧ w'.cell? ⟨tg, j, none⟩ = some (.string (T))) (by kernel_rfl) ⟨m0c, m1c, m2c, m3c, m4c, j0c, j1c, j2c, j3c, j4c, ht⟩ (fun hHeld => ?_)
            refine tk 0 73 (.agg #[.int .i64 (M.lo), .int .i64 (M.hi), .int .i64 (M.cl), .string (M.bg), .string (M.en)]) rfl (by kernel_rfl) (fun _ _ _ h => h) (.inl ⟨by rfl, fun w hw => by dsimp only at hw; go_simp⟩) hHeld ?_
            simp only [Act.put, List.setIfInBounds_toArray, List.set_cons_zero, List.set_cons_succ]
            refine tk 1 74 (.slice (some ⟨tg, 0, none⟩) ts.length cap9) rfl (by kernel_rfl) (fun _ _ _ h => h) (.inl ⟨by rfl, fun w hw => by dsimp only at hw; go_simp⟩) hHeld ?_
            simp only [Act.put, List.setIfInBounds_toArray, List.set_cons_zero, List.set_cons_succ]
            refine tk 2 75 (.int .i64 (j)) rfl (by kernel_rfl) (fun _ _ _ h => h) (.inl ⟨by rfl, fun w hw => by dsimp only at hw; go_simp⟩) hHeld ?_
            simp only [Act.put, List.setIfInBounds_toArray, List.set_cons_zero, List.set_cons_succ]
            refine tk 3 76 (.pointer (some ⟨tg, j, none⟩)) rfl (by kernel_rfl) (fun _ _ _ h => h) (.inl ⟨by rfl, fun w hw => by dsimp only at hw; go_simp⟩) hHeld ?_
            simp only [Act.put, List.setIfInBounds_toArray, List.set_cons_zero, List.set_cons_succ]
            refine tk 4 77 (.string (T)) rfl (by kernel_rfl) (fun _ _ _ h => h) (.inl ⟨by rfl, fun w hw => by dsimp only at hw; go_simp⟩) hHeld ?_
            simp only [Act.put, List.setIfInBounds_toArray, List.set_cons_zero, List.set_cons_succ]
            refine tk 6 79 (.bool (false)) rfl (by kernel_rfl) (fun _ _ _ h => h) (.inl ⟨by rfl, fun w hw => by dsimp only at hw; go_simp⟩) hHeld ?_
            simp only [Act.put, List.setIfInBounds_toArray, List.set_cons_zero, List.set_cons_succ]
            refine wpAnyH_ready (rs := [5]) (by kernel_rfl) (by simp) ?_
            refine AllReadyH.cons (o := ⟨some 78, _, _, _, _, _⟩) rfl (fun K hK => ?_) AllReadyH.nil
            go_simp
            refine (Hcm1.out _).mono ?_
            rintro e Vh1 ⟨rfl, fh1⟩
            have HFh1 := Lib.hid (HZ.out.trans fh1)
            refine hK.out _ _ ⟨fh1.cell hHeld.1 (fun h => h), fh1.cell hHeld.2.1 (fun h => h), fh1.cell hHeld.2.2.1 (fun h => h), fh1.cell hHeld.2.2.2.1 (fun h => h), fh1.cell hHeld.2.2.2.2.1 (fun h => h), fh1.cell hHeld.2.2.2.2.2.1 (fun h => h), fh1.cell hHeld.2.2.2.2.2.2.1 (fun h => h), fh1.cell hHeld.2.2.2.2.2.2.2.1 (fun h => h), fh1.cell hHeld.2.2.2.2.2.2.2.2.1 (fun h => h), fh1.cell hHeld.2.2.2.2.2.2.2.2.2.1 (fun h => h), fh1.cell hHeld.2.2.2.2.2.2.2.2.2.2 (fun h => h)⟩ (fun hHeld => ?_)
            clear hK K fh1 HZ
            refine tk 7 80 (.bool (false)) rfl (by kernel_rfl) (fun _ _ _ h => h) (.inl ⟨by rfl, fun w hw => by dsimp only at hw; go_simp⟩) hHeld ?_
            simp only [Act.put, List.setIfInBounds_toArray, List.set_cons_zero, List.set_cons_succ]
            refine tk 8 81 _ rfl (by kernel_rfl) (fun _ _ _ h => h) (.inr ⟨by rfl, rfl⟩) hHeld ?_
            simp only [Act.put, List.setIfInBounds_toArray, List.set_cons_zero, List.set_cons_succ]
            refine tk 9 82 (.bool (false)) rfl (by kernel_rfl) (fun _ _ _ h => h) (.inl ⟨by rfl, fun w hw => by dsimp only at hw; go_simp⟩) hHeld ?_
            simp only [Act.put, List.setIfInBounds_toArray, List.set_cons_zero, List.set_cons_succ]
            refine tk 10 83 (.bool (false)) rfl (by kernel_rfl) (fun _ _ _ h => h) (.inl ⟨by rfl, fun w hw => by dsimp only at hw; go_simp⟩) hHeld ?_
            simp only [Act.put, List.setIfInBounds_toArray, List.set_cons_zero, List.set_cons_succ]
            refine tk 11 84 (.bool (false)) rfl (by kernel_rfl) (fun _ _ _ h => h) (.inl ⟨by rfl, fun w hw => by dsimp only at hw; go_simp⟩) hHeld ?_
            simp only [Act.put, List.setIfInBounds_toArray, List.set_cons_zero, List.set_cons_succ]
            refine tk 12 85 (.bool (false)) rfl (by kernel_rfl) (fun _ _ _ h => h) (.inl ⟨by rfl, fun w hw => by dsimp only at hw; go_simp⟩) hHeld ?_
            simp only [Act.put, List.setIfInBounds_toArray, List.set_cons_zero, List.set_cons_succ]
            refine tk 13 86 (.bool (false)) rfl (by kernel_rfl) (fun _ _ _ h => h) (.inl ⟨by rfl, fun w hw => by dsimp only at hw; go_simp⟩) hHeld ?_
            simp only [Act.put, List.setIfInBounds_toArray, List.set_cons_zero, List.set_cons_succ]
            refine tk 14 87 (.bool (false)) rfl (by kernel_rfl) (fun _ _ _ h => h) (.inl ⟨by rfl, fun w hw => by dsimp only at hw; go_simp⟩) hHeld ?_
            simp only [Act.put, List.setIfInBounds_toArray, List.set_cons_zero, List.set_cons_succ]
            refine tk 15 88 (.bool (false)) rfl (by kernel_rfl) (fun _ _ _ h => h) (.inl ⟨by rfl, fun w hw => by dsimp only at hw; go_simp⟩) hHeld ?_
            simp only [Act.put, List.setIfInBounds_toArray, List.set_cons_zero, List.set_cons_succ]
            refine tk 16 89 (.bool (false)) rfl (by kernel_rfl) (fun _ _ _ h => h) (.inl ⟨by rfl, fun w hw => by dsimp only at hw; go_simp⟩) hHeld ?_
            simp only [Act.put, List.setIfInBounds_toArray, List.set_cons_zero, List.set_cons_succ]
            refine tk 17 90 _ rfl (by kernel_rfl) (fun _ _ _ h => h) (.inr ⟨by rfl, rfl⟩) hHeld ?_
            simp only [Act.put, List.setIfInBounds_toArray, List.set_cons_zero, List.set_cons_succ]
            refine tk 18 91 _ rfl (by kernel_rfl) (fun _ _ _ h => h) (.inr ⟨by rfl, rfl⟩) hHeld ?_
            simp only [Act.put, List.setIfInBounds_toArray, List.set_cons_zero, List.set_cons_succ]
            refine tk 19 92 _ rfl (by kernel_rfl) (fun _ _ _ h => h) (.inr ⟨by rfl, rfl⟩) hHeld ?_
            simp only [Act.put, List.setIfInBounds_toArray, List.set_cons_zero, List.set_cons_succ]
            refine tk 20 93 _ rfl (by kernel_rfl) (fun _ _ _ h => h) (.inr ⟨by rfl, rfl⟩) hHeld ?_
            simp only [Act.put, List.setIfInBounds_toArray, List.set_cons_zero, List.set_cons_succ]
            refine tk 21 94 _ rfl (by kernel_rfl) (fun _ _ _ h => h) (.inr ⟨by rfl, rfl⟩) hHeld ?_
            simp only [Act.put, List.setIfInBounds_toArray, List.set_cons_zero, List.set_cons_succ]
            refine tk 22 95 _ rfl (by kernel_rfl) (fun _ _ _ h => h) (.inr ⟨by rfl, rfl⟩) hHeld ?_
            simp only [Act.put, List.setIfInBounds_toArray, List.set_cons_zero, List.set_cons_succ]
            refine tk 23 96 _ rfl (by kernel_rfl) (fun _ _ _ h => h) (.inr ⟨by rfl, rfl⟩) hHeld ?_
            simp only [Act.put, List.setIfInBounds_toArray, List.set_cons_zero, List.set_cons_succ]
            refine tk 24 97 (.bool (false)) rfl (by kernel_rfl) (fun _ _ _ h => h) (.inl ⟨by rfl, fun w hw => by dsimp only at hw; go_simp⟩) hHeld ?_
            simp only [Act.put, List.setIfInBounds_toArray, List.set_cons_zero, List.set_cons_succ]
            refine tk 25 98 (.bool (false)) rfl (by kernel_rfl) (fun _ _ _ h => h) (.inl ⟨by rfl, fun w hw => by dsimp only at hw; go_simp⟩) hHeld ?_
            simp only [Act.put, List.setIfInBounds_toArray, List.set_cons_zero, List.set_cons_succ]
            refine tk 26 99 (.bool (false)) rfl (by kernel_rfl) (fun _ _ _ h => h) (.inl ⟨by rfl, fun w hw => by dsimp only at hw; go_simp⟩) hHeld ?_
            simp only [Act.put, List.setIfInBounds_toArray, List.set_cons_zero, List.set_cons_succ]
            refine tk 27 100 (.bool (true)) rfl (by kernel_rfl) (fun _ _ _ h => h) (.inl ⟨by rfl, fun w hw => by dsimp only at hw; go_simp⟩) hHeld ?_
            simp only [Act.put, List.setIfInBounds_toArray, List.set_cons_zero, List.set_cons_succ]
            refine tk 28 101 (.bool (true)) rfl (by kernel_rfl) (fun _ _ _ h => h) (.inl ⟨by rfl, fun w hw => by dsimp only at hw; go_simp⟩) hHeld ?_
            simp only [Act.put, List.setIfInBounds_toArray, List.set_cons_zero, List.set_cons_succ]
            refine tk 29 102 (.bool (false)) rfl (by kernel_rfl) (fun _ _ _ h => h) (.inl ⟨by rfl, fun w hw => by dsimp only at hw; go_simp⟩) hHeld ?_
            simp only [Act.put, List.setIfInBounds_toArray, List.set_cons_zero, List.set_cons_succ]
            refine tk 30 103 (.bool (false)) rfl (by kernel_rfl) (fun _ _ _ h => h) (.inl ⟨by rfl, fun w hw => by dsimp only at hw; go_simp⟩) hHeld ?_
            simp only [Act.put, List.setIfInBounds_toArray, List.set_cons_zero, List.set_cons_succ]
            refine tk 31 104 (.bool (false)) rfl (by kernel_rfl) (fun _ _ _ h => h) (.inl ⟨by rfl, fun w hw => by dsimp only at hw; go_simp⟩) hHeld ?_
            simp only [Act.put, List.setIfInBounds_toArray, List.set_cons_zero, List.set_cons_succ]
            refine tk 32 105 _ rfl (by kernel_rfl) (fun _ _ _ h => h) (.inr ⟨by rfl, rfl⟩) hHeld ?_
            simp only [Act.put, List.setIfInBounds_toArray, List.set_cons_zero, List.set_cons_succ]
            refine tk 33 106 _ rfl (by kernel_rfl) (fun _ _ _ h => h) (.inr ⟨by rfl, rfl⟩) hHeld ?_
            simp only [Act.put, List.setIfInBounds_toArray, List.set_cons_zero, List.set_cons_succ]
            refine tk 34 107 (.bool (false)) rfl (by kernel_rfl) (fun _ _ _ h => h) (.inl ⟨by rfl, fun w hw => by dsimp only at hw; go_simp⟩) hHeld ?_
            simp only [Act.put, List.setIfInBounds_toArray, List.set_cons_zero, List.set_cons_succ]
            refine tk 35 108 (.bool (false)) rfl (by kernel_rfl) (fun _ _ _ h => h) (.inl ⟨by rfl, fun w hw => by dsimp only at hw; go_simp⟩) hHeld ?_
            simp only [Act.put, List.setIfInBounds_toArray, List.set_cons_zero, List.set_cons_succ]
            refine wpAnyH_done (by kernel_rfl) ?_ _
            have Hfe := Lib.hid HFh1.out
            clear HFh1 hHeld Hf9 ht m0c m1c m2c m3c m4c j0c j1c j2c j3c j4c
            go_wp2_with fail
            go_roundw
            case rel => exact ⟨j + 1, by go_num, hjl, Hfe.out⟩
            case measure => simp [intOf]; omega
          ·
           cases wi
           ·
            skip
            have hga := k3 rfl
            subst hga
            clear k2 k3 k4
            have HZ := Lib.hid Hf9.out.drew
            refine wp_region_held_drew (S := fun w' => w'.cell? ⟨mb, 0, none⟩ = some (.int .i64 (M.lo)) ∧ w'.cell? ⟨mb, 1, none⟩ = some (.int .i64 (M.hi)) ∧ w'.cell? ⟨mb, 2, none⟩ = some (.int .i64 (M.cl)) ∧ w'.cell? ⟨mb, 3, none⟩ = some (.string (M.bg)) ∧ w'.cell? ⟨mb, 4, none⟩ = some (.string (M.en)) ∧ w'.cell? ⟨jb, 0, none⟩ = some (.int .i64 (J.lo)) ∧ w'.cell? ⟨jb, 1, none⟩ = some (.int .i64 (J.hi)) ∧ w'.cell? ⟨jb, 2, none⟩ = some (.int .i64 (J.cl)) ∧ w'.cell? ⟨jb, 3, none⟩ = some (.string (J.bg)) ∧ w'.cell? ⟨jb, 4, none⟩ = some (.string (J.en)) ∧ w'.cell? ⟨tg, j, none⟩ = some (.string (T))) (by kernel_rfl) ⟨m0c, m1c, m2c, m3c, m4c, j0c, j1c, j2c, j3c, j4c, ht⟩ (fun hHeld => ?_)
            refine tk 0 73 (.agg #[.int .i64 (M.lo), .int .i64 (M.hi), .int .i64 (M.cl), .string (M.bg), .string (M.en)]) rfl (by kernel_rfl) (fun _ _ _ h => h) (.inl ⟨by rfl, fun w hw => by dsimp only at hw; go_simp⟩) hHeld ?_
            simp only [Act.put, List.setIfInBounds_toArray, List.set_cons_zero, List.set_cons_succ]
            refine tk 1 74 (.slice (some ⟨tg, 0, none⟩) ts.length cap9) rfl (by kernel_rfl) (fun _ _ _ h => h) (.inl ⟨by rfl, fun w hw => by dsimp only at hw; go_simp⟩) hHeld ?_
            simp only [Act.put, List.setIfInBounds_toArray, List.set_cons_zero, List.set_cons_succ]
            refine tk 2 75 (.int .i64 (j)) rfl (by kernel_rfl) (fun _ _ _ h => h) (.inl ⟨by rfl, fun w hw => by dsimp only at hw; go_simp⟩) hHeld ?_
            simp only [Act.put, List.setIfInBounds_toArray, List.set_cons_zero, List.set_cons_succ]
            refine tk 3 76 (.pointer (some ⟨tg, j, none⟩)) rfl (by kernel_rfl) (fun _ _ _ h => h) (.inl ⟨by rfl, fun w hw => by dsimp only at hw; go_simp⟩) hHeld ?_
            simp only [Act.put, List.setIfInBounds_toArray, List.set_cons_zero, List.set_cons_succ]
            refine tk 4 77 (.string (T)) rfl (by kernel_rfl) (fun _ _ _ h => h) (.inl ⟨by rfl, fun w hw => by dsimp only at hw; go_simp⟩) hHeld ?_
            simp only [Act.put, List.setIfInBounds_toArray, List.set_cons_zero, List.set_cons_succ]
            refine tk 6 79 (.bool (false)) rfl (by kernel_rfl) (fun _ _ _ h => h) (.inl ⟨by rfl, fun w hw => by dsimp only at hw; go_simp⟩) hHeld ?_
            simp only [Act.put, List.setIfInBounds_toArray, List.set_cons_zero, List.set_cons_succ]
            refine wpAnyH_ready (rs := [5]) (by kernel_rfl) (by simp) ?_
            refine AllReadyH.cons (o := ⟨some 78, _, _, _, _, _⟩) rfl (fun K hK => ?_) AllReadyH.nil
            go_simp
            refine (Hcm1.out _).mono ?_
            rintro e Vh1 ⟨rfl, fh1⟩
            have HFh1 := Lib.hid (HZ.out.trans fh1)
            refine hK.out _ _ ⟨fh1.cell hHeld.1 (fun h => h), fh1.cell hHeld.2.1 (fun h => h), fh1.cell hHeld.2.2.1 (fun h => h), fh1.cell hHeld.2.2.2.1 (fun h => h), fh1.cell hHeld.2.2.2.2.1 (fun h => h), fh1.cell hHeld.2.2.2.2.2.1 (fun h => h), fh1.cell hHeld.2.2.2.2.2.2.1 (fun h => h), fh1.cell hHeld.2.2.2.2.2.2.2.1 (fun h => h), fh1.cell hHeld.2.2.2.2.2.2.2.2.1 (fun h => h), fh1.cell hHeld.2.2.2.2.2.2.2.2.2.1 (fun h => h), fh1.cell hHeld.2.2.2.2.2.2.2.2.2.2 (fun h => h)⟩ (fun hHeld => ?_)
            clear hK K fh1 HZ
            refine tk 7 80 (.bool (false)) rfl (by kernel_rfl) (fun _ _ _ h => h) (.inl ⟨by rfl, fun w hw => by dsimp only at hw; go_simp⟩) hHeld ?_
            simp only [Act.put, List.setIfInBounds_toArray, List.set_cons_zero, List.set_cons_succ]
            refine tk 8 81 _ rfl (by kernel_rfl) (fun _ _ _ h => h) (.inr ⟨by rfl, rfl⟩) hHeld ?_
            simp only [Act.put, List.setIfInBounds_toArray, List.set_cons_zero, List.set_cons_succ]
            refine tk 9 82 (.bool (false)) rfl (by kernel_rfl) (fun _ _ _ h => h) (.inl ⟨by rfl, fun w hw => by dsimp only at hw; go_simp⟩) hHeld ?_
            simp only [Act.put, List.setIfInBounds_toArray, List.set_cons_zero, List.set_cons_succ]
            refine tk 10 83 (.bool (false)) rfl (by kernel_rfl) (fun _ _ _ h => h) (.inl ⟨by rfl, fun w hw => by dsimp only at hw; go_simp⟩) hHeld ?_
            simp only [Act.put, List.setIfInBounds_toArray, List.set_cons_zero, List.set_cons_succ]
            refine tk 11 84 (.bool (false)) rfl (by kernel_rfl) (fun _ _ _ h => h) (.inl ⟨by rfl, fun w hw => by dsimp only at hw; go_simp⟩) hHeld ?_
            simp only [Act.put, List.setIfInBounds_toArray, List.set_cons_zero, List.set_cons_succ]
            refine tk 12 85 (.bool (false)) rfl (by kernel_rfl) (fun _ _ _ h => h) (.inl ⟨by rfl, fun w hw => by dsimp only at hw; go_simp⟩) hHeld ?_
            simp only [Act.put, List.setIfInBounds_toArray, List.set_cons_zero, List.set_cons_succ]
            refine tk 13 86 (.bool (false)) rfl (by kernel_rfl) (fun _ _ _ h => h) (.inl ⟨by rfl, fun w hw => by dsimp only at hw; go_simp⟩) hHeld ?_
            simp only [Act.put, List.setIfInBounds_toArray, List.set_cons_zero, List.set_cons_succ]
            refine tk 14 87 (.bool (true)) rfl (by kernel_rfl) (fun _ _ _ h => h) (.inl ⟨by rfl, fun w hw => by dsimp only at hw; go_simp⟩) hHeld ?_
            simp only [Act.put, List.setIfInBounds_toArray, List.set_cons_zero, List.set_cons_succ]
            refine tk 15 88 (.bool (true)) rfl (by kernel_rfl) (fun _ _ _ h => h) (.inl ⟨by rfl, fun w hw => by dsimp only at hw; go_simp⟩) hHeld ?_
            simp only [Act.put, List.setIfInBounds_toArray, List.set_cons_zero, List.set_cons_succ]
            refine tk 16 89 (.bool (true)) rfl (by kernel_rfl) (fun _ _ _ h => h) (.inl ⟨by rfl, fun w hw => by dsimp only at hw; go_simp⟩) hHeld ?_
            simp only [Act.put, List.setIfInBounds_toArray, List.set_cons_zero, List.set_cons_succ]
            refine tk 17 90 (.agg #[.int .i64 (J.lo), .int .i64 (J.hi), .int .i64 (J.cl), .string (J.bg), .string (J.en)]) rfl (by kernel_rfl) (fun _ _ _ h => h) (.inl ⟨by rfl, fun w hw => by dsimp only at hw; go_simp⟩) hHeld ?_
            simp only [Act.put, List.setIfInBounds_toArray, List.set_cons_zero, List.set_cons_succ]
            refine tk 18 91 (.slice (some ⟨tg, 0, none⟩) ts.length cap9) rfl (by kernel_rfl) (fun _ _ _ h => h) (.inl ⟨by rfl, fun w hw => by dsimp only at hw; go_simp⟩) hHeld ?_
            simp only [Act.put, List.setIfInBounds_toArray, List.set_cons_zero, List.set_cons_succ]
            refine tk 19 92 (.int .i64 (j)) rfl (by kernel_rfl) (fun _ _ _ h => h) (.inl ⟨by rfl, fun w hw => by dsimp only at hw; go_simp⟩) hHeld ?_
            simp only [Act.put, List.setIfInBounds_toArray, List.set_cons_zero, List.set_cons_succ]
            refine tk 20 93 (.pointer (some ⟨tg, j, none⟩)) rfl (by kernel_rfl) (fun _ _ _ h => h) (.inl ⟨by rfl, fun w hw => by dsimp only at hw; go_simp⟩) hHeld ?_
            simp only [Act.put, List.setIfInBounds_toArray, List.set_cons_zero, List.set_cons_succ]
            refine tk 21 94 (.string (T)) rfl (by kernel_rfl) (fun _ _ _ h => h) (.inl ⟨by rfl, fun w hw => by dsimp only at hw; go_simp⟩) hHeld ?_
            simp only [Act.put, List.setIfInBounds_toArray, List.set_cons_zero, List.set_cons_succ]
            refine wpAnyH_ready (rs := [22]) (by kernel_rfl) (by simp) ?_
            refine AllReadyH.cons (o := ⟨some 95, _, _, _, _, _⟩) rfl (fun K hK => ?_) AllReadyH.nil
            go_simp
            refine (Hcj1.out _).mono ?_
            rintro e Vh2 ⟨rfl, fh2⟩
            have HFh2 := Lib.hid (HFh1.out.trans fh2)
            refine hK.out _ _ ⟨fh2.cell hHeld.1 (fun h => h), fh2.cell hHeld.2.1 (fun h => h), fh2.cell hHeld.2.2.1 (fun h => h), fh2.cell hHeld.2.2.2.1 (fun h => h), fh2.cell hHeld.2.2.2.2.1 (fun h => h), fh2.cell hHeld.2.2.2.2.2.1 (fun h => h), fh2.cell hHeld.2.2.2.2.2.2.1 (fun h => h), fh2.cell hHeld.2.2.2.2.2.2.2.1 (fun h => h), fh2.cell hHeld.2.2.2.2.2.2.2.2.1 (fun h => h), fh2.cell hHeld.2.2.2.2.2.2.2.2.2.1 (fun h => h), fh2.cell hHeld.2.2.2.2.2.2.2.2.2.2 (fun h => h)⟩ (fun hHeld => ?_)
            clear hK K fh2 HFh1
            refine tk 23 96 (.bool (false)) rfl (by kernel_rfl) (fun _ _ _ h => h) (.inl ⟨by rfl, fun w hw => by dsimp only at hw; go_simp⟩) hHeld ?_
            simp only [Act.put, List.setIfInBounds_toArray, List.set_cons_zero, List.set_cons_succ]
            refine tk 24 97 (.bool (false)) rfl (by kernel_rfl) (fun _ _ _ h => h) (.inl ⟨by rfl, fun w hw => by dsimp only at hw; go_simp⟩) hHeld ?_
            simp only [Act.put, List.setIfInBounds_toArray, List.set_cons_zero, List.set_cons_succ]
            refine tk 25 98 (.bool (false)) rfl (by kernel_rfl) (fun _ _ _ h => h) (.inl ⟨by rfl, fun w hw => by dsimp only at hw; go_simp⟩) hHeld ?_
            simp only [Act.put, List.setIfInBounds_toArray, List.set_cons_zero, List.set_cons_succ]
            refine tk 26 99 (.bool (false)) rfl (by kernel_rfl) (fun _ _ _ h => h) (.inl ⟨by rfl, fun w hw => by dsimp only at hw; go_simp⟩) hHeld ?_
            simp only [Act.put, List.setIfInBounds_toArray, List.set_cons_zero, List.set_cons_succ]
            refine tk 27 100 (.bool (false)) rfl (by kernel_rfl) (fun _ _ _ h => h) (.inl ⟨by rfl, fun w hw => by dsimp only at hw; go_simp⟩) hHeld ?_
            simp only [Act.put, List.setIfInBounds_toArray, List.set_cons_zero, List.set_cons_succ]
            refine tk 28 101 (.bool (false)) rfl (by kernel_rfl) (fun _ _ _ h => h) (.inl ⟨by rfl, fun w hw => by dsimp only at hw; go_simp⟩) hHeld ?_
            simp only [Act.put, List.setIfInBounds_toArray, List.set_cons_zero, List.set_cons_succ]
            refine tk 29 102 _ rfl (by kernel_rfl) (fun _ _ _ h => h) (.inr ⟨by rfl, rfl⟩) hHeld ?_
            simp only [Act.put, List.setIfInBounds_toArray, List.set_cons_zero, List.set_cons_succ]
            refine tk 30 103 (.bool (false)) rfl (by kernel_rfl) (fun _ _ _ h => h) (.inl ⟨by rfl, fun w hw => by dsimp only at hw; go_simp⟩) hHeld ?_
            simp only [Act.put, List.setIfInBounds_toArray, List.set_cons_zero, List.set_cons_succ]
            refine tk 31 104 (.bool (false)) rfl (by kernel_rfl) (fun _ _ _ h => h) (.inl ⟨by rfl, fun w hw => by dsimp only at hw; go_simp⟩) hHeld ?_
            simp only [Act.put, List.setIfInBounds_toArray, List.set_cons_zero, List.set_cons_succ]
            refine tk 32 105 _ rfl (by kernel_rfl) (fun _ _ _ h => h) (.inr ⟨by rfl, rfl⟩) hHeld ?_
            simp only [Act.put, List.setIfInBounds_toArray, List.set_cons_zero, List.set_cons_succ]
            refine tk 33 106 _ rfl (by kernel_rfl) (fun _ _ _ h => h) (.inr ⟨by rfl, rfl⟩) hHeld ?_
            simp only [Act.put, List.setIfInBounds_toArray, List.set_cons_zero, List.set_cons_succ]
            refine tk 34 107 (.bool (false)) rfl (by kernel_rfl) (fun _ _ _ h => h) (.inl ⟨by rfl, fun w hw => by dsimp only at hw; go_simp⟩) hHeld ?_
            simp only [Act.put, List.setIfInBounds_toArray, List.set_cons_zero, List.set_cons_succ]
            refine tk 35 108 (.bool (false)) rfl (by kernel_rfl) (fun _ _ _ h => h) (.inl ⟨by rfl, fun w hw => by dsimp only at hw; go_simp⟩) hHeld ?_
            simp only [Act.put, List.setIfInBounds_toArray, List.set_cons_zero, List.set_cons_succ]
            refine wpAnyH_done (by kernel_rfl) ?_ _
            have Hfe := Lib.hid HFh2.out
            clear HFh2 hHeld Hf9 ht m0c m1c m2c m3c m4c j0c j1c j2c j3c j4c
            go_wp2_with fail
            go_roundw
            case rel => exact ⟨j + 1, by go_num, hjl, Hfe.out⟩
            case measure => simp [intOf]; omega
           ·
            skip
            have hga := k3 rfl
            subst hga
            clear k2 k3 k4
            have HZ := Lib.hid Hf9.out.drew
            refine wp_region_held_drew (S := fun w' => w'.cell? ⟨mb, 0, none⟩ = some (.int .i64 (M.lo)) ∧ w'.cell? ⟨mb, 1, none⟩ = some (.int .i64 (M.hi)) ∧ w'.cell? ⟨mb, 2, none⟩ = some (.int .i64 (M.cl)) ∧ w'.cell? ⟨mb, 3, none⟩ = some (.string (M.bg)) ∧ w'.cell? ⟨mb, 4, none⟩ = some (.string (M.en)) ∧ w'.cell? ⟨jb, 0, none⟩ = some (.int .i64 (J.lo)) ∧ w'.cell? ⟨jb, 1, none⟩ = some (.int .i64 (J.hi)) ∧ w'.cell? ⟨jb, 2, none⟩ = some (.int .i64 (J.cl)) ∧ w'.cell? ⟨jb, 3, none⟩ = some (.string (J.bg)) ∧ w'.cell? ⟨jb, 4, none⟩ = some (.string (J.en)) ∧ w'.cell? ⟨tg, j, none⟩ = some (.string (T))) (by kernel_rfl) ⟨m0c, m1c, m2c, m3c, m4c, j0c, j1c, j2c, j3c, j4c, ht⟩ (fun hHeld => ?_)
            refine tk 0 73 (.agg #[.int .i64 (M.lo), .int .i64 (M.hi), .int .i64 (M.cl), .string (M.bg), .string (M.en)]) rfl (by kernel_rfl) (fun _ _ _ h => h) (.inl ⟨by rfl, fun w hw => by dsimp only at hw; go_simp⟩) hHeld ?_
            simp only [Act.put, List.setIfInBounds_toArray, List.set_cons_zero, List.set_cons_succ]
            refine tk 1 74 (.slice (some ⟨tg, 0, none⟩) ts.length cap9) rfl (by kernel_rfl) (fun _ _ _ h => h) (.inl ⟨by rfl, fun w hw => by dsimp only at hw; go_simp⟩) hHeld ?_
            simp only [Act.put, List.setIfInBounds_toArray, List.set_cons_zero, List.set_cons_succ]
            refine tk 2 75 (.int .i64 (j)) rfl (by kernel_rfl) (fun _ _ _ h => h) (.inl ⟨by rfl, fun w hw => by dsimp only at hw; go_simp⟩) hHeld ?_
            simp only [Act.put, List.setIfInBounds_toArray, List.set_cons_zero, List.set_cons_succ]
            refine tk 3 76 (.pointer (some ⟨tg, j, none⟩)) rfl (by kernel_rfl) (fun _ _ _ h => h) (.inl ⟨by rfl, fun w hw => by dsimp only at hw; go_simp⟩) hHeld ?_
            simp only [Act.put, List.setIfInBounds_toArray, List.set_cons_zero, List.set_cons_succ]
            refine tk 4 77 (.string (T)) rfl (by kernel_rfl) (fun _ _ _ h => h) (.inl ⟨by rfl, fun w hw => by dsimp only at hw; go_simp⟩) hHeld ?_
            simp only [Act.put, List.setIfInBounds_toArray, List.set_cons_zero, List.set_cons_succ]
            refine tk 6 79 (.bool (false)) rfl (by kernel_rfl) (fun _ _ _ h => h) (.inl ⟨by rfl, fun w hw => by dsimp only at hw; go_simp⟩) hHeld ?_
            simp only [Act.put, List.setIfInBounds_toArray, List.set_cons_zero, List.set_cons_succ]
            refine wpAnyH_ready (rs := [5]) (by kernel_rfl) (by simp) ?_
            refine AllReadyH.cons (o := ⟨some 78, _, _, _, _, _⟩) rfl (fun K hK => ?_) AllReadyH.nil
            go_simp
            refine (Hcm1.out _).mono ?_
            rintro e Vh1 ⟨rfl, fh1⟩
            have HFh1 := Lib.hid (HZ.out.trans fh1)
            refine hK.out _ _ ⟨fh1.cell hHeld.1 (fun h => h), fh1.cell hHeld.2.1 (fun h => h), fh1.cell hHeld.2.2.1 (fun h => h), fh1.cell hHeld.2.2.2.1 (fun h => h), fh1.cell hHeld.2.2.2.2.1 (fun h => h), fh1.cell hHeld.2.2.2.2.2.1 (fun h => h), fh1.cell hHeld.2.2.2.2.2.2.1 (fun h => h), fh1.cell hHeld.2.2.2.2.2.2.2.1 (fun h => h), fh1.cell hHeld.2.2.2.2.2.2.2.2.1 (fun h => h), fh1.cell hHeld.2.2.2.2.2.2.2.2.2.1 (fun h => h), fh1.cell hHeld.2.2.2.2.2.2.2.2.2.2 (fun h => h)⟩ (fun hHeld => ?_)
            clear hK K fh1 HZ
            refine tk 7 80 (.bool (false)) rfl (by kernel_rfl) (fun _ _ _ h => h) (.inl ⟨by rfl, fun w hw => by dsimp only at hw; go_simp⟩) hHeld ?_
            simp only [Act.put, List.setIfInBounds_toArray, List.set_cons_zero, List.set_cons_succ]
            refine tk 8 81 _ rfl (by kernel_rfl) (fun _ _ _ h => h) (.inr ⟨by rfl, rfl⟩) hHeld ?_
            simp only [Act.put, List.setIfInBounds_toArray, List.set_cons_zero, List.set_cons_succ]
            refine tk 9 82 (.bool (false)) rfl (by kernel_rfl) (fun _ _ _ h => h) (.inl ⟨by rfl, fun w hw => by dsimp only at hw; go_simp⟩) hHeld ?_
            simp only [Act.put, List.setIfInBounds_toArray, List.set_cons_zero, List.set_cons_succ]
            refine tk 10 83 (.bool (false)) rfl (by kernel_rfl) (fun _ _ _ h => h) (.inl ⟨by rfl, fun w hw => by dsimp only at hw; go_simp⟩) hHeld ?_
            simp only [Act.put, List.setIfInBounds_toArray, List.set_cons_zero, List.set_cons_succ]
            refine tk 11 84 (.bool (false)) rfl (by kernel_rfl) (fun _ _ _ h => h) (.inl ⟨by rfl, fun w hw => by dsimp only at hw; go_simp⟩) hHeld ?_
            simp only [Act.put, List.setIfInBounds_toArray, List.set_cons_zero, List.set_cons_succ]
            refine tk 12 85 (.bool (false)) rfl (by kernel_rfl) (fun _ _ _ h => h) (.inl ⟨by rfl, fun w hw => by dsimp only at hw; go_simp⟩) hHeld ?_
            simp only [Act.put, List.setIfInBounds_toArray, List.set_cons_zero, List.set_cons_succ]
            refine tk 13 86 (.bool (false)) rfl (by kernel_rfl) (fun _ _ _ h => h) (.inl ⟨by rfl, fun w hw => by dsimp only at hw; go_simp⟩) hHeld ?_
            simp only [Act.put, List.setIfInBounds_toArray, List.set_cons_zero, List.set_cons_succ]
            refine tk 14 87 (.bool (true)) rfl (by kernel_rfl) (fun _ _ _ h => h) (.inl ⟨by rfl, fun w hw => by dsimp only at hw; go_simp⟩) hHeld ?_
            simp only [Act.put, List.setIfInBounds_toArray, List.set_cons_zero, List.set_cons_succ]
            refine tk 15 88 (.bool (true)) rfl (by kernel_rfl) (fun _ _ _ h => h) (.inl ⟨by rfl, fun w hw => by dsimp only at hw; go_simp⟩) hHeld ?_
            simp only [Act.put, List.setIfInBounds_toArray, List.set_cons_zero, List.set_cons_succ]
            refine tk 16 89 (.bool (true)) rfl (by kernel_rfl) (fun _ _ _ h => h) (.inl ⟨by rfl, fun w hw => by dsimp only at hw; go_simp⟩) hHeld ?_
            simp only [Act.put, List.setIfInBounds_toArray, List.set_cons_zero, List.set_cons_succ]
            refine tk 17 90 (.agg #[.int .i64 (J.lo), .int .i64 (J.hi), .int .i64 (J.cl), .string (J.bg), .string (J.en)]) rfl (by kernel_rfl) (fun _ _ _ h => h) (.inl ⟨by rfl, fun w hw => by dsimp only at hw; go_simp⟩) hHeld ?_
            simp only [Act.put, List.setIfInBounds_toArray, List.set_cons_zero, List.set_cons_succ]
            refine tk 18 91 (.slice (some ⟨tg, 0, none⟩) ts.length cap9) rfl (by kernel_rfl) (fun _ _ _ h => h) (.inl ⟨by rfl, fun w hw => by dsimp only at hw; go_simp⟩) hHeld ?_
            simp only [Act.put, List.setIfInBounds_toArray, List.set_cons_zero, List.set_cons_succ]
            refine tk 19 92 (.int .i64 (j)) rfl (by kernel_rfl) (fun _ _ _ h => h) (.inl ⟨by rfl, fun w hw => by dsimp only at hw; go_simp⟩) hHeld ?_
            simp only [Act.put, List.setIfInBounds_toArray, List.set_cons_zero, List.set_cons_succ]
            refine tk 20 93 (.pointer (some ⟨tg, j, none⟩)) rfl (by kernel_rfl) (fun _ _ _ h => h) (.inl ⟨by rfl, fun w hw => by dsimp only at hw; go_simp⟩) hHeld ?_
            simp only [Act.put, List.setIfInBounds_toArray, List.set_cons_zero, List.set_cons_succ]
            refine tk 21 94 (.string (T)) rfl (by kernel_rfl) (fun _ _ _ h => h) (.inl ⟨by rfl, fun w hw => by dsimp only at hw; go_simp⟩) hHeld ?_
            simp only [Act.put, List.setIfInBounds_toArray, List.set_cons_zero, List.set_cons_succ]
            refine wpAnyH_ready (rs := [22]) (by kernel_rfl) (by simp) ?_
            refine AllReadyH.cons (o := ⟨some 95, _, _, _, _, _⟩) rfl (fun K hK => ?_) AllReadyH.nil
            go_simp
            refine (Hcj1.out _).mono ?_
            rintro e Vh2 ⟨rfl, fh2⟩
            have HFh2 := Lib.hid (HFh1.out.trans fh2)
            refine hK.out _ _ ⟨fh2.cell hHeld.1 (fun h => h), fh2.cell hHeld.2.1 (fun h => h), fh2.cell hHeld.2.2.1 (fun h => h), fh2.cell hHeld.2.2.2.1 (fun h => h), fh2.cell hHeld.2.2.2.2.1 (fun h => h), fh2.cell hHeld.2.2.2.2.2.1 (fun h => h), fh2.cell hHeld.2.2.2.2.2.2.1 (fun h => h), fh2.cell hHeld.2.2.2.2.2.2.2.1 (fun h => h), fh2.cell hHeld.2.2.2.2.2.2.2.2.1 (fun h => h), fh2.cell hHeld.2.2.2.2.2.2.2.2.2.1 (fun h => h), fh2.cell hHeld.2.2.2.2.2.2.2.2.2.2 (fun h => h)⟩ (fun hHeld => ?_)
            clear hK K fh2 HFh1
            refine tk 23 96 (.bool (false)) rfl (by kernel_rfl) (fun _ _ _ h => h) (.inl ⟨by rfl, fun w hw => by dsimp only at hw; go_simp⟩) hHeld ?_
            simp only [Act.put, List.setIfInBounds_toArray, List.set_cons_zero, List.set_cons_succ]
            refine tk 24 97 (.bool (false)) rfl (by kernel_rfl) (fun _ _ _ h => h) (.inl ⟨by rfl, fun w hw => by dsimp only at hw; go_simp⟩) hHeld ?_
            simp only [Act.put, List.setIfInBounds_toArray, List.set_cons_zero, List.set_cons_succ]
            refine tk 25 98 (.bool (false)) rfl (by kernel_rfl) (fun _ _ _ h => h) (.inl ⟨by rfl, fun w hw => by dsimp only at hw; go_simp⟩) hHeld ?_
            simp only [Act.put, List.setIfInBounds_toArray, List.set_cons_zero, List.set_cons_succ]
            refine tk 26 99 (.bool (false)) rfl (by kernel_rfl) (fun _ _ _ h => h) (.inl ⟨by rfl, fun w hw => by dsimp only at hw; go_simp⟩) hHeld ?_
            simp only [Act.put, List.setIfInBounds_toArray, List.set_cons_zero, List.set_cons_succ]
            refine tk 27 100 (.bool (true)) rfl (by kernel_rfl) (fun _ _ _ h => h) (.inl ⟨by rfl, fun w hw => by dsimp only at hw; go_simp⟩) hHeld ?_
            simp only [Act.put, List.setIfInBounds_toArray, List.set_cons_zero, List.set_cons_succ]
            refine tk 28 101 (.bool (true)) rfl (by kernel_rfl) (fun _ _ _ h => h) (.inl ⟨by rfl, fun w hw => by dsimp only at hw; go_simp⟩) hHeld ?_
            simp only [Act.put, List.setIfInBounds_toArray, List.set_cons_zero, List.set_cons_succ]
            refine tk 29 102 (.bool (false)) rfl (by kernel_rfl) (fun _ _ _ h => h) (.inl ⟨by rfl, fun w hw => by dsimp only at hw; go_simp⟩) hHeld ?_
            simp only [Act.put, List.setIfInBounds_toArray, List.set_cons_zero, List.set_cons_succ]
            refine tk 30 103 (.bool (false)) rfl (by kernel_rfl) (fun _ _ _ h => h) (.inl ⟨by rfl, fun w hw => by dsimp only at hw; go_simp⟩) hHeld ?_
            simp only [Act.put, List.setIfInBounds_toArray, List.set_cons_zero, List.set_cons_succ]
            refine tk 31 104 (.bool (false)) rfl (by kernel_rfl) (fun _ _ _ h => h) (.inl ⟨by rfl, fun w hw => by dsimp only at hw; go_simp⟩) hHeld ?_
            simp only [Act.put, List.setIfInBounds_toArray, List.set_cons_zero, List.set_cons_succ]
            refine tk 32 105 _ rfl (by kernel_rfl) (fun _ _ _ h => h) (.inr ⟨by rfl, rfl⟩) hHeld ?_
            simp only [Act.put, List.setIfInBounds_toArray, List.set_cons_zero, List.set_cons_succ]
            refine tk 33 106 _ rfl (by kernel_rfl) (fun _ _ _ h => h) (.inr ⟨by rfl, rfl⟩) hHeld ?_
            simp only [Act.put, List.setIfInBounds_toArray, List.set_cons_zero, List.set_cons_succ]
            refine tk 34 107 (.bool (false)) rfl (by kernel_rfl) (fun _ _ _ h => h) (.inl ⟨by rfl, fun w hw => by dsimp only at hw; go_simp⟩) hHeld ?_
            simp only [Act.put, List.setIfInBounds_toArray, List.set_cons_zero, List.set_cons_succ]
            refine tk 35 108 (.bool (false)) rfl (by kernel_rfl) (fun _ _ _ h => h) (.inl ⟨by rfl, fun w hw => by dsimp only at hw; go_simp⟩) hHeld ?_
            simp only [Act.put, List.setIfInBounds_toArray, List.set_cons_zero, List.set_cons_succ]
            refine wpAnyH_done (by kernel_rfl) ?_ _
            have Hfe := Lib.hid HFh2.out
            clear HFh2 hHeld Hf9 ht m0c m1c m2c m3c m4c j0c j1c j2c j3c j4c
            go_wp2_with fail
            go_roundw
            case rel => exact ⟨j + 1, by go_num, hjl, Hfe.out⟩
            case measure => simp [intOf]; omega
         ·
          cases be
          ·
           cases wi
           ·
            skip
            have hga := k2 rfl
            subst hga
            clear k2 k3 k4
            have HZ := Lib.hid Hf9.out.drew
            refine wp_region_held_drew (S := fun w' => w'.cell? ⟨mb, 0, none⟩ = some (.int .i64 (M.lo)) ∧ w'.cell? ⟨mb, 1, none⟩ = some (.int .i64 (M.hi)) ∧ w'.cell? ⟨mb, 2, none⟩ = some (.int .i64 (M.cl)) ∧ w'.cell? ⟨mb, 3, none⟩ = some (.string (M.bg)) ∧ w'.cell? ⟨mb, 4, none⟩ = some (.string (M.en)) ∧ w'.cell? ⟨jb, 0, none⟩ = some (.int .i64 (J.lo)) ∧ w'.cell? ⟨jb, 1, none⟩ = some (.int .i64 (J.hi)) ∧ w'.cell? ⟨jb, 2, none⟩ = some (.int .i64 (J.cl)) ∧ w'.cell? ⟨jb, 3, none⟩ = some (.string (J.bg)) ∧ w'.cell? ⟨jb, 4, none⟩ = some (.string (J.en)) ∧ w'.cell? ⟨tg, j, none⟩ = some (.string (T))) (by kernel_rfl) ⟨m0c, m1c, m2c, m3c, m4c, j0c, j1c, j2c, j3c, j4c, ht⟩ (fun hHeld => ?_)
            refine tk 0 73 (.agg #[.int .i64 (M.lo), .int .i64 (M.hi), .int .i64 (M.cl), .string (M.bg), .string (M.en)]) rfl (by kernel_rfl) (fun _ _ _ h => h) (.inl ⟨by rfl, fun w hw => by dsimp only at hw; go_simp⟩) hHeld ?_
            simp only [Act.put, List.setIfInBounds_toArray, List.set_cons_zero, List.set_cons_succ]
            refine tk 1 74 (.slice (some ⟨tg, 0, none⟩) ts.length cap9) rfl (by kernel_rfl) (fun _ _ _ h => h) (.inl ⟨by rfl, fun w hw => by dsimp only at hw; go_simp⟩) hHeld ?_
            simp only [Act.put, List.setIfInBounds_toArray, List.set_cons_zero, List.set_cons_succ]
            refine tk 2 75 (.int .i64 (j)) rfl (by kernel_rfl) (fun _ _ _ h => h) (.inl ⟨by rfl, fun w hw => by dsimp only at hw; go_simp⟩) hHeld ?_
            simp only [Act.put, List.setIfInBounds_toArray, List.set_cons_zero, List.set_cons_succ]
            refine tk 3 76 (.pointer (some ⟨tg, j, none⟩)) rfl (by kernel_rfl) (fun _ _ _ h => h) (.inl ⟨by rfl, fun w hw => by dsimp only at hw; go_simp⟩) hHeld ?_
            simp only [Act.put, List.setIfInBounds_toArray, List.set_cons_zero, List.set_cons_succ]
            refine tk 4 77 (.string (T)) rfl (by kernel_rfl) (fun _ _ _ h => h) (.inl ⟨by rfl, fun w hw => by dsimp only at hw; go_simp⟩) hHeld ?_
            simp only [Act.put, List.setIfInBounds_toArray, List.set_cons_zero, List.set_cons_succ]
            refine tk 6 79 (.bool (true)) rfl (by kernel_rfl) (fun _ _ _ h => h) (.inl ⟨by rfl, fun w hw => by dsimp only at hw; go_simp⟩) hHeld ?_
            simp only [Act.put, List.setIfInBounds_toArray, List.set_cons_zero, List.set_cons_succ]
            refine wpAnyH_ready (rs := [5]) (by kernel_rfl) (by simp) ?_
            refine AllReadyH.cons (o := ⟨some 78, _, _, _, _, _⟩) rfl (fun K hK => ?_) AllReadyH.nil
            go_simp
            refine (Hcm1.out _).mono ?_
            rintro e Vh1 ⟨rfl, fh1⟩
            have HFh1 := Lib.hid (HZ.out.trans fh1)
            refine hK.out _ _ ⟨fh1.cell hHeld.1 (fun h => h), fh1.cell hHeld.2.1 (fun h => h), fh1.cell hHeld.2.2.1 (fun h => h), fh1.cell hHeld.2.2.2.1 (fun h => h), fh1.cell hHeld.2.2.2.2.1 (fun h => h), fh1.cell hHeld.2.2.2.2.2.1 (fun h => h), fh1.cell hHeld.2.2.2.2.2.2.1 (fun h => h), fh1.cell hHeld.2.2.2.2.2.2.2.1 (fun h => h), fh1.cell hHeld.2.2.2.2.2.2.2.2.1 (fun h => h), fh1.cell hHeld.2.2.2.2.2.2.2.2.2.1 (fun h => h), fh1.cell hHeld.2.2.2.2.2.2.2.2.2.2 (fun h => h)⟩ (fun hHeld => ?_)
            clear hK K fh1 HZ
            refine tk 7 80 (.bool (true)) rfl (by kernel_rfl) (fun _ _ _ h => h) (.inl ⟨by rfl, fun w hw => by dsimp only at hw; go_simp⟩) hHeld ?_
            simp only [Act.put, List.setIfInBounds_toArray, List.set_cons_zero, List.set_cons_succ]
            refine tk 8 81 (.bool (false)) rfl (by kernel_rfl) (fun _ _ _ h => h) (.inl ⟨by rfl, fun w hw => by dsimp only at hw; go_simp⟩) hHeld ?_
            simp only [Act.put, List.setIfInBounds_toArray, List.set_cons_zero, List.set_cons_succ]
            refine tk 9 82 (.bool (false)) rfl (by kernel_rfl) (fun _ _ _ h => h) (.inl ⟨by rfl, fun w hw => by dsimp only at hw; go_simp⟩) hHeld ?_
            simp only [Act.put, List.setIfInBounds_toArray, List.set_cons_zero, List.set_cons_succ]
            refine tk 10 83 (.bool (false)) rfl (by kernel_rfl) (fun _ _ _ h => h) (.inl ⟨by rfl, fun w hw => by dsimp only at hw; go_simp⟩) hHeld ?_
            simp only [Act.put, List.setIfInBounds_toArray, List.set_cons_zero, List.set_cons_succ]
            refine tk 11 84 (.bool (false)) rfl (by kernel_rfl) (fun _ _ _ h => h) (.inl ⟨by rfl, fun w hw => by dsimp only at hw; go_simp⟩) hHeld ?_
            simp only [Act.put, List.setIfInBounds_toArray, List.set_cons_zero, List.set_cons_succ]
            refine tk 12 85 (.bool (true)) rfl (by kernel_rfl) (fun _ _ _ h => h) (.inl ⟨by rfl, fun w hw => by dsimp only at hw; go_simp⟩) hHeld ?_
            simp only [Act.put, List.setIfInBounds_toArray, List.set_cons_zero, List.set_cons_succ]
            refine tk 13 86 (.bool (true)) rfl (by kernel_rfl) (fun _ _ _ h => h) (.inl ⟨by rfl, fun w hw => by dsimp only at hw; go_simp⟩) hHeld ?_
            simp only [Act.put, List.setIfInBounds_toArray, List.set_cons_zero, List.set_cons_succ]
            refine tk 14 87 _ rfl (by kernel_rfl) (fun _ _ _ h => h) (.inr ⟨by rfl, rfl⟩) hHeld ?_
            simp only [Act.put, List.setIfInBounds_toArray, List.set_cons_zero, List.set_cons_succ]
            refine tk 15 88 (.bool (true)) rfl (by kernel_rfl) (fun _ _ _ h => h) (.inl ⟨by rfl, fun w hw => by dsimp only at hw; go_simp⟩) hHeld ?_
            simp only [Act.put, List.setIfInBounds_toArray, List.set_cons_zero, List.set_cons_succ]
            refine tk 16 89 (.bool (true)) rfl (by kernel_rfl) (fun _ _ _ h => h) (.inl ⟨by rfl, fun w hw => by dsimp only at hw; go_simp⟩) hHeld ?_
            simp only [Act.put, List.setIfInBounds_toArray, List.set_cons_zero, List.set_cons_succ]
            refine tk 17 90 (.agg #[.int .i64 (J.lo), .int .i64 (J.hi), .int .i64 (J.cl), .string (J.bg), .string (J.en)]) rfl (by kernel_rfl) (fun _ _ _ h => h) (.inl ⟨by rfl, fun w hw => by dsimp only at hw; go_simp⟩) hHeld ?_
            simp only [Act.put, List.setIfInBounds_toArray, List.set_cons_zero, List.set_cons_succ]
            refine tk 18 91 (.slice (some ⟨tg, 0, none⟩) ts.length cap9) rfl (by kernel_rfl) (fun _ _ _ h => h) (.inl ⟨by rfl, fun w hw => by dsimp only at hw; go_simp⟩) hHeld ?_
            simp only [Act.put, List.setIfInBounds_toArray, List.set_cons_zero, List.set_cons_succ]
            refine tk 19 92 (.int .i64 (j)) rfl (by kernel_rfl) (fun _ _ _ h => h) (.inl ⟨by rfl, fun w hw => by dsimp only at hw; go_simp⟩) hHeld ?_
            simp only [Act.put, List.setIfInBounds_toArray, List.set_cons_zero, List.set_cons_succ]
            refine tk 20 93 (.pointer (some ⟨tg, j, none⟩)) rfl (by kernel_rfl) (fun _ _ _ h => h) (.inl ⟨by rfl, fun w hw => by dsimp only at hw; go_simp⟩) hHeld ?_
            simp only [Act.put, List.setIfInBounds_toArray, List.set_cons_zero, List.set_cons_succ]
            refine tk 21 94 (.string (T)) rfl (by kernel_rfl) (fun _ _ _ h => h) (.inl ⟨by rfl, fun w hw => by dsimp only at hw; go_simp⟩) hHeld ?_
            simp only [Act.put, List.setIfInBounds_toArray, List.set_cons_zero, List.set_cons_succ]
            refine wpAnyH_ready (rs := [22]) (by kernel_rfl) (by simp) ?_
            refine AllReadyH.cons (o := ⟨some 95, _, _, _, _, _⟩) rfl (fun K hK => ?_) AllReadyH.nil
            go_simp
            refine (Hcj1.out _).mono ?_
            rintro e Vh2 ⟨rfl, fh2⟩
            have HFh2 := Lib.hid (HFh1.out.trans fh2)
            refine hK.out _ _ ⟨fh2.cell hHeld.1 (fun h => h), fh2.cell hHeld.2.1 (fun h => h), fh2.cell hHeld.2.2.1 (fun h => h), fh2.cell hHeld.2.2.2.1 (fun h => h), fh2.cell hHeld.2.2.2.2.1 (fun h => h), fh2.cell hHeld.2.2.2.2.2.1 (fun h => h), fh2.cell hHeld.2.2.2.2.2.2.1 (fun h => h), fh2.cell hHeld.2.2.2.2.2.2.2.1 (fun h => h), fh2.cell hHeld.2.2.2.2.2.2.2.2.1 (fun h => h), fh2.cell hHeld.2.2.2.2.2.2.2.2.2.1 (fun h => h), fh2.cell hHeld.2.2.2.2.2.2.2.2.2.2 (fun h => h)⟩ (fun hHeld => ?_)
            clear hK K fh2 HFh1
            refine tk 23 96 (.bool (false)) rfl (by kernel_rfl) (fun _ _ _ h => h) (.inl ⟨by rfl, fun w hw => by dsimp only at hw; go_simp⟩) hHeld ?_
            simp only [Act.put, List.setIfInBounds_toArray, List.set_cons_zero, List.set_cons_succ]
            refine tk 24 97 (.bool (false)) rfl (by kernel_rfl) (fun _ _ _ h => h) (.inl ⟨by rfl, fun w hw => by dsimp only at hw; go_simp⟩) hHeld ?_
            simp only [Act.put, List.setIfInBounds_toArray, List.set_cons_zero, List.set_cons_succ]
            refine tk 25 98 (.bool (false)) rfl (by kernel_rfl) (fun _ _ _ h => h) (.inl ⟨by rfl, fun w hw => by dsimp only at hw; go_simp⟩) hHeld ?_
            simp only [Act.put, List.setIfInBounds_toArray, List.set_cons_zero, List.set_cons_succ]
            refine tk 26 99 (.bool (false)) rfl (by kernel_rfl) (fun _ _ _ h => h) (.inl ⟨by rfl, fun w hw => by dsimp only at hw; go_simp⟩) hHeld ?_
            simp only [Act.put, List.setIfInBounds_toArray, List.set_cons_zero, List.set_cons_succ]
            refine tk 27 100 (.bool (false)) rfl (by kernel_rfl) (fun _ _ _ h => h) (.inl ⟨by rfl, fun w hw => by dsimp only at hw; go_simp⟩) hHeld ?_
            simp only [Act.put, List.setIfInBounds_toArray, List.set_cons_zero, List.set_cons_succ]
            refine tk 28 101 (.bool (false)) rfl (by kernel_rfl) (fun _ _ _ h => h) (.inl ⟨by rfl, fun w hw => by dsimp only at hw; go_simp⟩) hHeld ?_
            simp only [Act.put, List.setIfInBounds_toArray, List.set_cons_zero, List.set_cons_succ]
            refine tk 29 102 _ rfl (by kernel_rfl) (fun _ _ _ h => h) (.inr ⟨by rfl, rfl⟩) hHeld ?_
            simp only [Act.put, List.setIfInBounds_toArray, List.set_cons_zero, List.set_cons_succ]
            refine tk 30 103 (.bool (false)) rfl (by kernel_rfl) (fun _ _ _ h => h) (.inl ⟨by rfl, fun w hw => by dsimp only at hw; go_simp⟩) hHeld ?_
            simp only [Act.put, List.setIfInBounds_toArray, List.set_cons_zero, List.set_cons_succ]
            refine tk 31 104 (.bool (false)) rfl (by kernel_rfl) (fun _ _ _ h => h) (.inl ⟨by rfl, fun w hw => by dsimp only at hw; go_simp⟩) hHeld ?_
            simp only [Act.put, List.setIfInBounds_toArray, List.set_cons_zero, List.set_cons_succ]
            refine tk 32 105 _ rfl (by kernel_rfl) (fun _ _ _ h => h) (.inr ⟨by rfl, rfl⟩) hHeld ?_
            simp only [Act.put, List.setIfInBounds_toArray, List.set_cons_zero, List.set_cons_succ]
            refine tk 33 106 _ rfl (by kernel_rfl) (fun _ _ _ h => h) (.inr ⟨by rfl, rfl⟩) hHeld ?_
            simp only [Act.put, List.setIfInBounds_toArray, List.set_cons_zero, List.set_cons_succ]
            refine tk 34 107 (.bool (false)) rfl (by kernel_rfl) (fun _ _ _ h => h) (.inl ⟨by rfl, fun w hw => by dsimp only at hw; go_simp⟩) hHeld ?_
            simp only [Act.put, List.setIfInBounds_toArray, List.set_cons_zero, List.set_cons_succ]
            refine tk 35 108 (.bool (false)) rfl (by kernel_rfl) (fun _ _ _ h => h) (.inl ⟨by rfl, fun w hw => by dsimp only at hw; go_simp⟩) hHeld ?_
            simp only [Act.put, List.setIfInBounds_toArray, List.set_cons_zero, List.set_cons_succ]
            refine wpAnyH_done (by kernel_rfl) ?_ _
            have Hfe := Lib.hid HFh2.out
            clear HFh2 hHeld Hf9 ht m0c m1c m2c m3c m4c j0c j1c j2c j3c j4c
            go_wp2_with fail
            go_roundw
            case rel => exact ⟨j + 1, by go_num, hjl, Hfe.out⟩
            case measure => simp [intOf]; omega
           ·
            exact absurd (k4 rfl rfl) (by simp)
          ·
           cases wi
           ·
            skip
            have hga := k2 rfl
            subst hga
            clear k2 k3 k4
            have HZ := Lib.hid Hf9.out.drew
            refine wp_region_held_drew (S := fun w' => w'.cell? ⟨mb, 0, none⟩ = some (.int .i64 (M.lo)) ∧ w'.cell? ⟨mb, 1, none⟩ = some (.int .i64 (M.hi)) ∧ w'.cell? ⟨mb, 2, none⟩ = some (.int .i64 (M.cl)) ∧ w'.cell? ⟨mb, 3, none⟩ = some (.string (M.bg)) ∧ w'.cell? ⟨mb, 4, none⟩ = some (.string (M.en)) ∧ w'.cell? ⟨jb, 0, none⟩ = some (.int .i64 (J.lo)) ∧ w'.cell? ⟨jb, 1, none⟩ = some (.int .i64 (J.hi)) ∧ w'.cell? ⟨jb, 2, none⟩ = some (.int .i64 (J.cl)) ∧ w'.cell? ⟨jb, 3, none⟩ = some (.string (J.bg)) ∧ w'.cell? ⟨jb, 4, none⟩ = some (.string (J.en)) ∧ w'.cell? ⟨tg, j, none⟩ = some (.string (T))) (by kernel_rfl) ⟨m0c, m1c, m2c, m3c, m4c, j0c, j1c, j2c, j3c, j4c, ht⟩ (fun hHeld => ?_)
            refine tk 0 73 (.agg #[.int .i64 (M.lo), .int .i64 (M.hi), .int .i64 (M.cl), .string (M.bg), .string (M.en)]) rfl (by kernel_rfl) (fun _ _ _ h => h) (.inl ⟨by rfl, fun w hw => by dsimp only at hw; go_simp⟩) hHeld ?_
            simp only [Act.put, List.setIfInBounds_toArray, List.set_cons_zero, List.set_cons_succ]
            refine tk 1 74 (.slice (some ⟨tg, 0, none⟩) ts.length cap9) rfl (by kernel_rfl) (fun _ _ _ h => h) (.inl ⟨by rfl, fun w hw => by dsimp only at hw; go_simp⟩) hHeld ?_
            simp only [Act.put, List.setIfInBounds_toArray, List.set_cons_zero, List.set_cons_succ]
            refine tk 2 75 (.int .i64 (j)) rfl (by kernel_rfl) (fun _ _ _ h => h) (.inl ⟨by rfl, fun w hw => by dsimp only at hw; go_simp⟩) hHeld ?_
            simp only [Act.put, List.setIfInBounds_toArray, List.set_cons_zero, List.set_cons_succ]
            refine tk 3 76 (.pointer (some ⟨tg, j, none⟩)) rfl (by kernel_rfl) (fun _ _ _ h => h) (.inl ⟨by rfl, fun w hw => by dsimp only at hw; go_simp⟩) hHeld ?_
            simp only [Act.put, List.setIfInBounds_toArray, List.set_cons_zero, List.set_cons_succ]
            refine tk 4 77 (.string (T)) rfl (by kernel_rfl) (fun _ _ _ h => h) (.inl ⟨by rfl, fun w hw => by dsimp only at hw; go_simp⟩) hHeld ?_
            simp only [Act.put, List.setIfInBounds_toArray, List.set_cons_zero, List.set_cons_succ]
            refine tk 6 79 (.bool (true)) rfl (by kernel_rfl) (fun _ _ _ h => h) (.inl ⟨by rfl, fun w hw => by dsimp only at hw; go_simp⟩) hHeld ?_
            simp only [Act.put, List.setIfInBounds_toArray, List.set_cons_zero, List.set_cons_succ]
            refine wpAnyH_ready (rs := [5]) (by kernel_rfl) (by simp) ?_
            refine AllReadyH.cons (o := ⟨some 78, _, _, _, _, _⟩) rfl (fun K hK => ?_) AllReadyH.nil
            go_simp
            refine (Hcm1.out _).mono ?_
            rintro e Vh1 ⟨rfl, fh1⟩
            have HFh1 := Lib.hid (HZ.out.trans fh1)
            refine hK.out _ _ ⟨fh1.cell hHeld.1 (fun h => h), fh1.cell hHeld.2.1 (fun h => h), fh1.cell hHeld.2.2.1 (fun h => h), fh1.cell hHeld.2.2.2.1 (fun h => h), fh1.cell hHeld.2.2.2.2.1 (fun h => h), fh1.cell hHeld.2.2.2.2.2.1 (fun h => h), fh1.cell hHeld.2.2.2.2.2.2.1 (fun h => h), fh1.cell hHeld.2.2.2.2.2.2.2.1 (fun h => h), fh1.cell hHeld.2.2.2.2.2.2.2.2.1 (fun h => h), fh1.cell hHeld.2.2.2.2.2.2.2.2.2.1 (fun h => h), fh1.cell hHeld.2.2.2.2.2.2.2.2.2.2 (fun h => h)⟩ (fun hHeld => ?_)
            clear hK K fh1 HZ
            refine tk 7 80 (.bool (true)) rfl (by kernel_rfl) (fun _ _ _ h => h) (.inl ⟨by rfl, fun w hw => by dsimp only at hw; go_simp⟩) hHeld ?_
            simp only [Act.put, List.setIfInBounds_toArray, List.set_cons_zero, List.set_cons_succ]
            refine tk 8 81 (.bool (true)) rfl (by kernel_rfl) (fun _ _ _ h => h) (.inl ⟨by rfl, fun w hw => by dsimp only at hw; go_simp⟩) hHeld ?_
            simp only [Act.put, List.setIfInBounds_toArray, List.set_cons_zero, List.set_cons_succ]
            refine tk 9 82 (.bool (true)) rfl (by kernel_rfl) (fun _ _ _ h => h) (.inl ⟨by rfl, fun w hw => by dsimp only at hw; go_simp⟩) hHeld ?_
            simp only [Act.put, List.setIfInBounds_toArray, List.set_cons_zero, List.set_cons_succ]
            refine tk 10 83 (.bool (false)) rfl (by kernel_rfl) (fun _ _ _ h => h) (.inl ⟨by rfl, fun w hw => by dsimp only at hw; go_simp⟩) hHeld ?_
            simp only [Act.put, List.setIfInBounds_toArray, List.set_cons_zero, List.set_cons_succ]
            refine tk 11 84 (.bool (false)) rfl (by kernel_rfl) (fun _ _ _ h => h) (.inl ⟨by rfl, fun w hw => by dsimp only at hw; go_simp⟩) hHeld ?_
            simp only [Act.put, List.setIfInBounds_toArray, List.set_cons_zero, List.set_cons_succ]
            refine tk 12 85 (.bool (true)) rfl (by kernel_rfl) (fun _ _ _ h => h) (.inl ⟨by rfl, fun w hw => by dsimp only at hw; go_simp⟩) hHeld ?_
            simp only [Act.put, List.setIfInBounds_toArray, List.set_cons_zero, List.set_cons_succ]
            refine tk 13 86 (.bool (true)) rfl (by kernel_rfl) (fun _ _ _ h => h) (.inl ⟨by rfl, fun w hw => by dsimp only at hw; go_simp⟩) hHeld ?_
            simp only [Act.put, List.setIfInBounds_toArray, List.set_cons_zero, List.set_cons_succ]
            refine tk 14 87 _ rfl (by kernel_rfl) (fun _ _ _ h => h) (.inr ⟨by rfl, rfl⟩) hHeld ?_
            simp only [Act.put, List.setIfInBounds_toArray, List.set_cons_zero, List.set_cons_succ]
            refine tk 15 88 (.bool (true)) rfl (by kernel_rfl) (fun _ _ _ h => h) (.inl ⟨by rfl, fun w hw => by dsimp only at hw; go_simp⟩) hHeld ?_
            simp only [Act.put, List.setIfInBounds_toArray, List.set_cons_zero, List.set_cons_succ]
            refine tk 16 89 (.bool (true)) rfl (by kernel_rfl) (fun _ _ _ h => h) (.inl ⟨by rfl, fun w hw => by dsimp only at hw; go_simp⟩) hHeld ?_
            simp only [Act.put, List.setIfInBounds_toArray, List.set_cons_zero, List.set_cons_succ]
            refine tk 17 90 (.agg #[.int .i64 (J.lo), .int .i64 (J.hi), .int .i64 (J.cl), .string (J.bg), .string (J.en)]) rfl (by kernel_rfl) (fun _ _ _ h => h) (.inl ⟨by rfl, fun w hw => by dsimp only at hw; go_simp⟩) hHeld ?_
            simp only [Act.put, List.setIfInBounds_toArray, List.set_cons_zero, List.set_cons_succ]
            refine tk 18 91 (.slice (some ⟨tg, 0, none⟩) ts.length cap9) rfl (by kernel_rfl) (fun _ _ _ h => h) (.inl ⟨by rfl, fun w hw => by dsimp only at hw; go_simp⟩) hHeld ?_
            simp only [Act.put, List.setIfInBounds_toArray, List.set_cons_zero, List.set_cons_succ]
            refine tk 19 92 (.int .i64 (j)) rfl (by kernel_rfl) (fun _ _ _ h => h) (.inl ⟨by rfl, fun w hw => by dsimp only at hw; go_simp⟩) hHeld ?_
            simp only [Act.put, List.setIfInBounds_toArray, List.set_cons_zero, List.set_cons_succ]
            refine tk 20 93 (.pointer (some ⟨tg, j, none⟩)) rfl (by kernel_rfl) (fun _ _ _ h => h) (.inl ⟨by rfl, fun w hw => by dsimp only at hw; go_simp⟩) hHeld ?_
            simp only [Act.put, List.setIfInBounds_toArray, List.set_cons_zero, List.set_cons_succ]
            refine tk 21 94 (.string (T)) rfl (by kernel_rfl) (fun _ _ _ h => h) (.inl ⟨by rfl, fun w hw => by dsimp only at hw; go_simp⟩) hHeld ?_
            simp only [Act.put, List.setIfInBounds_toArray, List.set_cons_zero, List.set_cons_succ]
            refine wpAnyH_ready (rs := [22]) (by kernel_rfl) (by simp) ?_
            refine AllReadyH.cons (o := ⟨some 95, _, _, _, _, _⟩) rfl (fun K hK => ?_) AllReadyH.nil
            go_simp
            refine (Hcj1.out _).mono ?_
            rintro e Vh2 ⟨rfl, fh2⟩
            have HFh2 := Lib.hid (HFh1.out.trans fh2)
            refine hK.out _ _ ⟨fh2.cell hHeld.1 (fun h => h), fh2.cell hHeld.2.1 (fun h => h), fh2.cell hHeld.2.2.1 (fun h => h), fh2.cell hHeld.2.2.2.1 (fun h => h), fh2.cell hHeld.2.2.2.2.1 (fun h => h), fh2.cell hHeld.2.2.2.2.2.1 (fun h => h), fh2.cell hHeld.2.2.2.2.2.2.1 (fun h => h), fh2.cell hHeld.2.2.2.2.2.2.2.1 (fun h => h), fh2.cell hHeld.2.2.2.2.2.2.2.2.1 (fun h => h), fh2.cell hHeld.2.2.2.2.2.2.2.2.2.1 (fun h => h), fh2.cell hHeld.2.2.2.2.2.2.2.2.2.2 (fun h => h)⟩ (fun hHeld => ?_)
            clear hK K fh2 HFh1
            refine tk 23 96 (.bool (false)) rfl (by kernel_rfl) (fun _ _ _ h => h) (.inl ⟨by rfl, fun w hw => by dsimp only at hw; go_simp⟩) hHeld ?_
            simp only [Act.put, List.setIfInBounds_toArray, List.set_cons_zero, List.set_cons_succ]
            refine tk 24 97 (.bool (false)) rfl (by kernel_rfl) (fun _ _ _ h => h) (.inl ⟨by rfl, fun w hw => by dsimp only at hw; go_simp⟩) hHeld ?_
            simp only [Act.put, List.setIfInBounds_toArray, List.set_cons_zero, List.set_cons_succ]
            refine tk 25 98 (.bool (false)) rfl (by kernel_rfl) (fun _ _ _ h => h) (.inl ⟨by rfl, fun w hw => by dsimp only at hw; go_simp⟩) hHeld ?_
            simp only [Act.put, List.setIfInBounds_toArray, List.set_cons_zero, List.set_cons_succ]
            refine tk 26 99 (.bool (false)) rfl (by kernel_rfl) (fun _ _ _ h => h) (.inl ⟨by rfl, fun w hw => by dsimp only at hw; go_simp⟩) hHeld ?_
            simp only [Act.put, List.setIfInBounds_toArray, List.set_cons_zero, List.set_cons_succ]
            refine tk 27 100 (.bool (false)) rfl (by kernel_rfl) (fun _ _ _ h => h) (.inl ⟨by rfl, fun w hw => by dsimp only at hw; go_simp⟩) hHeld ?_
            simp only [Act.put, List.setIfInBounds_toArray, List.set_cons_zero, List.set_cons_succ]
            refine tk 28 101 (.bool (false)) rfl (by kernel_rfl) (fun _ _ _ h => h) (.inl ⟨by rfl, fun w hw => by dsimp only at hw; go_simp⟩) hHeld ?_
            simp only [Act.put, List.setIfInBounds_toArray, List.set_cons_zero, List.set_cons_succ]
            refine tk 29 102 _ rfl (by kernel_rfl) (fun _ _ _ h => h) (.inr ⟨by rfl, rfl⟩) hHeld ?_
            simp only [Act.put, List.setIfInBounds_toArray, List.set_cons_zero, List.set_cons_succ]
            refine tk 30 103 (.bool (false)) rfl (by kernel_rfl) (fun _ _ _ h => h) (.inl ⟨by rfl, fun w hw => by dsimp only at hw; go_simp⟩) hHeld ?_
            simp only [Act.put, List.setIfInBounds_toArray, List.set_cons_zero, List.set_cons_succ]
            refine tk 31 104 (.bool (false)) rfl (by kernel_rfl) (fun _ _ _ h => h) (.inl ⟨by rfl, fun w hw => by dsimp only at hw; go_simp⟩) hHeld ?_
            simp only [Act.put, List.setIfInBounds_toArray, List.set_cons_zero, List.set_cons_succ]
            refine tk 32 105 _ rfl (by kernel_rfl) (fun _ _ _ h => h) (.inr ⟨by rfl, rfl⟩) hHeld ?_
            simp only [Act.put, List.setIfInBounds_toArray, List.set_cons_zero, List.set_cons_succ]
            refine tk 33 106 _ rfl (by kernel_rfl) (fun _ _ _ h => h) (.inr ⟨by rfl, rfl⟩) hHeld ?_
            simp only [Act.put, List.setIfInBounds_toArray, List.set_cons_zero, List.set_cons_succ]
            refine tk 34 107 (.bool (false)) rfl (by kernel_rfl) (fun _ _ _ h => h) (.inl ⟨by rfl, fun w hw => by dsimp only at hw; go_simp⟩) hHeld ?_
            simp only [Act.put, List.setIfInBounds_toArray, List.set_cons_zero, List.set_cons_succ]
            refine tk 35 108 (.bool (false)) rfl (by kernel_rfl) (fun _ _ _ h => h) (.inl ⟨by rfl, fun w hw => by dsimp only at hw; go_simp⟩) hHeld ?_
            simp only [Act.put, List.setIfInBounds_toArray, List.set_cons_zero, List.set_cons_succ]
            refine wpAnyH_done (by kernel_rfl) ?_ _
            have Hfe := Lib.hid HFh2.out
            clear HFh2 hHeld Hf9 ht m0c m1c m2c m3c m4c j0c j1c j2c j3c j4c
            go_wp2_with fail
            go_roundw
            case rel => exact ⟨j + 1, by go_num, hjl, Hfe.out⟩
            case measure => simp [intOf]; omega
           ·
            skip
            have hga := k2 rfl
            subst hga
            clear k2 k3 k4
            have HZ := Lib.hid Hf9.out.drew
            refine wp_region_held_drew (S := fun w' => w'.cell? ⟨mb, 0, none⟩ = some (.int .i64 (M.lo)) ∧ w'.cell? ⟨mb, 1, none⟩ = some (.int .i64 (M.hi)) ∧ w'.cell? ⟨mb, 2, none⟩ = some (.int .i64 (M.cl)) ∧ w'.cell? ⟨mb, 3, none⟩ = some (.string (M.bg)) ∧ w'.cell? ⟨mb, 4, none⟩ = some (.string (M.en)) ∧ w'.cell? ⟨jb, 0, none⟩ = some (.int .i64 (J.lo)) ∧ w'.cell? ⟨jb, 1, none⟩ = some (.int .i64 (J.hi)) ∧ w'.cell? ⟨jb, 2, none⟩ = some (.int .i64 (J.cl)) ∧ w'.cell? ⟨jb, 3, none⟩ = some (.string (J.bg)) ∧ w'.cell? ⟨jb, 4, none⟩ = some (.string (J.en)) ∧ w'.cell? ⟨tg, j, none⟩ = some (.string (T))) (by kernel_rfl) ⟨m0c, m1c, m2c, m3c, m4c, j0c, j1c, j2c, j3c, j4c, ht⟩ (fun hHeld => ?_)
            refine tk 0 73 (.agg #[.int .i64 (M.lo), .int .i64 (M.hi), .int .i64 (M.cl), .string (M.bg), .string (M.en)]) rfl (by kernel_rfl) (fun _ _ _ h => h) (.inl ⟨by rfl, fun w hw => by dsimp only at hw; go_simp⟩) hHeld ?_
            simp only [Act.put, List.setIfInBounds_toArray, List.set_cons_zero, List.set_cons_succ]
            refine tk 1 74 (.slice (some ⟨tg, 0, none⟩) ts.length cap9) rfl (by kernel_rfl) (fun _ _ _ h => h) (.inl ⟨by rfl, fun w hw => by dsimp only at hw; go_simp⟩) hHeld ?_
            simp only [Act.put, List.setIfInBounds_toArray, List.set_cons_zero, List.set_cons_succ]
            refine tk 2 75 (.int .i64 (j)) rfl (by kernel_rfl) (fun _ _ _ h => h) (.inl ⟨by rfl, fun w hw => by dsimp only at hw; go_simp⟩) hHeld ?_
            simp only [Act.put, List.setIfInBounds_toArray, List.set_cons_zero, List.set_cons_succ]
            refine tk 3 76 (.pointer (some ⟨tg, j, none⟩)) rfl (by kernel_rfl) (fun _ _ _ h => h) (.inl ⟨by rfl, fun w hw => by dsimp only at hw; go_simp⟩) hHeld ?_
            simp only [Act.put, List.setIfInBounds_toArray, List.set_cons_zero, List.set_cons_succ]
            refine tk 4 77 (.string (T)) rfl (by kernel_rfl) (fun _ _ _ h => h) (.inl ⟨by rfl, fun w hw => by dsimp only at hw; go_simp⟩) hHeld ?_
            simp only [Act.put, List.setIfInBounds_toArray, List.set_cons_zero, List.set_cons_succ]
            refine tk 6 79 (.bool (true)) rfl (by kernel_rfl) (fun _ _ _ h => h) (.inl ⟨by rfl, fun w hw => by dsimp only at hw; go_simp⟩) hHeld ?_
            simp only [Act.put, List.setIfInBounds_toArray, List.set_cons_zero, List.set_cons_succ]
            refine wpAnyH_ready (rs := [5]) (by kernel_rfl) (by simp) ?_
            refine AllReadyH.cons (o := ⟨some 78, _, _, _, _, _⟩) rfl (fun K hK => ?_) AllReadyH.nil
            go_simp
            refine (Hcm1.out _).mono ?_
            rintro e Vh1 ⟨rfl, fh1⟩
            have HFh1 := Lib.hid (HZ.out.trans fh1)
            refine hK.out _ _ ⟨fh1.cell hHeld.1 (fun h => h), fh1.cell hHeld.2.1 (fun h => h), fh1.cell hHeld.2.2.1 (fun h => h), fh1.cell hHeld.2.2.2.1 (fun h => h), fh1.cell hHeld.2.2.2.2.1 (fun h => h), fh1.cell hHeld.2.2.2.2.2.1 (fun h => h), fh1.cell hHeld.2.2.2.2.2.2.1 (fun h => h), fh1.cell hHeld.2.2.2.2.2.2.2.1 (fun h => h), fh1.cell hHeld.2.2.2.2.2.2.2.2.1 (fun h => h), fh1.cell hHeld.2.2.2.2.2.2.2.2.2.1 (fun h => h), fh1.cell hHeld.2.2.2.2.2.2.2.2.2.2 (fun h => h)⟩ (fun hHeld => ?_)
            clear hK K fh1 HZ
            refine tk 7 80 (.bool (true)) rfl (by kernel_rfl) (fun _ _ _ h => h) (.inl ⟨by rfl, fun w hw => by dsimp only at hw; go_simp⟩) hHeld ?_
            simp only [Act.put, List.setIfInBounds_toArray, List.set_cons_zero, List.set_cons_succ]
            refine tk 8 81 (.bool (true)) rfl (by kernel_rfl) (fun _ _ _ h => h) (.inl ⟨by rfl, fun w hw => by dsimp only at hw; go_simp⟩) hHeld ?_
            simp only [Act.put, List.setIfInBounds_toArray, List.set_cons_zero, List.set_cons_succ]
            refine tk 9 82 (.bool (true)) rfl (by kernel_rfl) (fun _ _ _ h => h) (.inl ⟨by rfl, fun w hw => by dsimp only at hw; go_simp⟩) hHeld ?_
            simp only [Act.put, List.setIfInBounds_toArray, List.set_cons_zero, List.set_cons_succ]
            refine tk 10 83 (.bool (false)) rfl (by kernel_rfl) (fun _ _ _ h => h) (.inl ⟨by rfl, fun w hw => by dsimp only at hw; go_simp⟩) hHeld ?_
            simp only [Act.put, List.setIfInBounds_toArray, List.set_cons_zero, List.set_cons_succ]
            refine tk 11 84 (.bool (false)) rfl (by kernel_rfl) (fun _ _ _ h => h) (.inl ⟨by rfl, fun w hw => by dsimp only at hw; go_simp⟩) hHeld ?_
            simp only [Act.put, List.setIfInBounds_toArray, List.set_cons_zero, List.set_cons_succ]
            refine tk 12 85 (.bool (true)) rfl (by kernel_rfl) (fun _ _ _ h => h) (.inl ⟨by rfl, fun w hw => by dsimp only at hw; go_simp⟩) hHeld ?_
            simp only [Act.put, List.setIfInBounds_toArray, List.set_cons_zero, List.set_cons_succ]
            refine tk 13 86 (.bool (true)) rfl (by kernel_rfl) (fun _ _ _ h => h) (.inl ⟨by rfl, fun w hw => by dsimp only at hw; go_simp⟩) hHeld ?_
            simp only [Act.put, List.setIfInBounds_toArray, List.set_cons_zero, List.set_cons_succ]
            refine tk 14 87 _ rfl (by kernel_rfl) (fun _ _ _ h => h) (.inr ⟨by rfl, rfl⟩) hHeld ?_
            simp only [Act.put, List.setIfInBounds_toArray, List.set_cons_zero, List.set_cons_succ]
            refine tk 15 88 (.bool (true)) rfl (by kernel_rfl) (fun _ _ _ h => h) (.inl ⟨by rfl, fun w hw => by dsimp only at hw; go_simp⟩) hHeld ?_
            simp only [Act.put, List.setIfInBounds_toArray, List.set_cons_zero, List.set_cons_succ]
            refine tk 16 89 (.bool (true)) rfl (by kernel_rfl) (fun _ _ _ h => h) (.inl ⟨by rfl, fun w hw => by dsimp only at hw; go_simp⟩) hHeld ?_
            simp only [Act.put, List.setIfInBounds_toArray, List.set_cons_zero, List.set_cons_succ]
            refine tk 17 90 (.agg #[.int .i64 (J.lo), .int .i64 (J.hi), .int .i64 (J.cl), .string (J.bg), .string (J.en)]) rfl (by kernel_rfl) (fun _ _ _ h => h) (.inl ⟨by rfl, fun w hw => by dsimp only at hw; go_simp⟩) hHeld ?_
            simp only [Act.put, List.setIfInBounds_toArray, List.set_cons_zero, List.set_cons_succ]
            refine tk 18 91 (.slice (some ⟨tg, 0, none⟩) ts.length cap9) rfl (by kernel_rfl) (fun _ _ _ h => h) (.inl ⟨by rfl, fun w hw => by dsimp only at hw; go_simp⟩) hHeld ?_
            simp only [Act.put, List.setIfInBounds_toArray, List.set_cons_zero, List.set_cons_succ]
            refine tk 19 92 (.int .i64 (j)) rfl (by kernel_rfl) (fun _ _ _ h => h) (.inl ⟨by rfl, fun w hw => by dsimp only at hw; go_simp⟩) hHeld ?_
            simp only [Act.put, List.setIfInBounds_toArray, List.set_cons_zero, List.set_cons_succ]
            refine tk 20 93 (.pointer (some ⟨tg, j, none⟩)) rfl (by kernel_rfl) (fun _ _ _ h => h) (.inl ⟨by rfl, fun w hw => by dsimp only at hw; go_simp⟩) hHeld ?_
            simp only [Act.put, List.setIfInBounds_toArray, List.set_cons_zero, List.set_cons_succ]
            refine tk 21 94 (.string (T)) rfl (by kernel_rfl) (fun _ _ _ h => h) (.inl ⟨by rfl, fun w hw => by dsimp only at hw; go_simp⟩) hHeld ?_
            simp only [Act.put, List.setIfInBounds_toArray, List.set_cons_zero, List.set_cons_succ]
            refine wpAnyH_ready (rs := [22]) (by kernel_rfl) (by simp) ?_
            refine AllReadyH.cons (o := ⟨some 95, _, _, _, _, _⟩) rfl (fun K hK => ?_) AllReadyH.nil
            go_simp
            refine (Hcj1.out _).mono ?_
            rintro e Vh2 ⟨rfl, fh2⟩
            have HFh2 := Lib.hid (HFh1.out.trans fh2)
            refine hK.out _ _ ⟨fh2.cell hHeld.1 (fun h => h), fh2.cell hHeld.2.1 (fun h => h), fh2.cell hHeld.2.2.1 (fun h => h), fh2.cell hHeld.2.2.2.1 (fun h => h), fh2.cell hHeld.2.2.2.2.1 (fun h => h), fh2.cell hHeld.2.2.2.2.2.1 (fun h => h), fh2.cell hHeld.2.2.2.2.2.2.1 (fun h => h), fh2.cell hHeld.2.2.2.2.2.2.2.1 (fun h => h), fh2.cell hHeld.2.2.2.2.2.2.2.2.1 (fun h => h), fh2.cell hHeld.2.2.2.2.2.2.2.2.2.1 (fun h => h), fh2.cell hHeld.2.2.2.2.2.2.2.2.2.2 (fun h => h)⟩ (fun hHeld => ?_)
            clear hK K fh2 HFh1
            refine tk 23 96 (.bool (false)) rfl (by kernel_rfl) (fun _ _ _ h => h) (.inl ⟨by rfl, fun w hw => by dsimp only at hw; go_simp⟩) hHeld ?_
            simp only [Act.put, List.setIfInBounds_toArray, List.set_cons_zero, List.set_cons_succ]
            refine tk 24 97 (.bool (false)) rfl (by kernel_rfl) (fun _ _ _ h => h) (.inl ⟨by rfl, fun w hw => by dsimp only at hw; go_simp⟩) hHeld ?_
            simp only [Act.put, List.setIfInBounds_toArray, List.set_cons_zero, List.set_cons_succ]
            refine tk 25 98 (.bool (false)) rfl (by kernel_rfl) (fun _ _ _ h => h) (.inl ⟨by rfl, fun w hw => by dsimp only at hw; go_simp⟩) hHeld ?_
            simp only [Act.put, List.setIfInBounds_toArray, List.set_cons_zero, List.set_cons_succ]
            refine tk 26 99 (.bool (false)) rfl (by kernel_rfl) (fun _ _ _ h => h) (.inl ⟨by rfl, fun w hw => by dsimp only at hw; go_simp⟩) hHeld ?_
            simp only [Act.put, List.setIfInBounds_toArray, List.set_cons_zero, List.set_cons_succ]
            refine tk 27 100 (.bool (true)) rfl (by kernel_rfl) (fun _ _ _ h => h) (.inl ⟨by rfl, fun w hw => by dsimp only at hw; go_simp⟩) hHeld ?_
            simp only [Act.put, List.setIfInBounds_toArray, List.set_cons_zero, List.set_cons_succ]
            refine tk 28 101 (.bool (true)) rfl (by kernel_rfl) (fun _ _ _ h => h) (.inl ⟨by rfl, fun w hw => by dsimp only at hw; go_simp⟩) hHeld ?_
            simp only [Act.put, List.setIfInBounds_toArray, List.set_cons_zero, List.set_cons_succ]
            refine tk 29 102 (.bool (true)) rfl (by kernel_rfl) (fun _ _ _ h => h) (.inl ⟨by rfl, fun w hw => by dsimp only at hw; go_simp⟩) hHeld ?_
            simp only [Act.put, List.setIfInBounds_toArray, List.set_cons_zero, List.set_cons_succ]
            refine tk 30 103 (.bool (true)) rfl (by kernel_rfl) (fun _ _ _ h => h) (.inl ⟨by rfl, fun w hw => by dsimp only at hw; go_simp⟩) hHeld ?_
            simp only [Act.put, List.setIfInBounds_toArray, List.set_cons_zero, List.set_cons_succ]
            refine tk 31 104 (.bool (true)) rfl (by kernel_rfl) (fun _ _ _ h => h) (.inl ⟨by rfl, fun w hw => by dsimp only at hw; go_simp⟩) hHeld ?_
            simp only [Act.put, List.setIfInBounds_toArray, List.set_cons_zero, List.set_cons_succ]
            refine tk 32 105 (.bool (true)) rfl (by kernel_rfl) (fun _ _ _ h => h) (.inl ⟨by rfl, fun w hw => by dsimp only at hw; go_simp⟩) hHeld ?_
            simp only [Act.put, List.setIfInBounds_toArray, List.set_cons_zero, List.set_cons_succ]
            refine tk 33 106 (.bool (false)) rfl (by kernel_rfl) (fun _ _ _ h => h) (.inl ⟨by rfl, fun w hw => by dsimp only at hw; go_simp⟩) hHeld ?_
            simp only [Act.put, List.setIfInBounds_toArray, List.set_cons_zero, List.set_cons_succ]
            refine tk 34 107 (.bool (false)) rfl (by kernel_rfl) (fun _ _ _ h => h) (.inl ⟨by rfl, fun w hw => by dsimp only at hw; go_simp⟩) hHeld ?_
            simp only [Act.put, List.setIfInBounds_toArray, List.set_cons_zero, List.set_cons_succ]
            refine tk 35 108 (.bool (false)) rfl (by kernel_rfl) (fun _ _ _ h => h) (.inl ⟨by rfl, fun w hw => by dsimp only at hw; go_simp⟩) hHeld ?_
            simp only [Act.put, List.setIfInBounds_toArray, List.set_cons_zero, List.set_cons_succ]
            refine wpAnyH_done (by kernel_rfl) ?_ _
            have Hfe := Lib.hid HFh2.out
            clear HFh2 hHeld Hf9 ht m0c m1c m2c m3c m4c j0c j1c j2c j3c j4c
            go_wp2_with fail
            go_roundw
            case rel => exact ⟨j + 1, by go_num, hjl, Hfe.out⟩
            case measure => simp [intOf]; omega
        ·
         have hjI : ¬ (j : Int) < (ts.length : Int) := by omega
         have hfe := Hf7.out.trans hf
         have Hfe := Lib.hid hfe
         clear hf hfe
         go_wp2_with fail
         go_roundw
         case rel => exact ⟨k + 1, by go_num, hk3, Hfe.out⟩
         case measure => simp [intOf]; omega
    ·
     have hk3I : ¬ (k : Int) < 3 := by omega
     have Hf := Lib.hid hf
     clear hf
     go_wp2_with fail
     go_roundw
     case rel => exact ⟨i + 1, by go_num, hi3, Hf.out⟩
     case measure => simp [intOf]; omega
  ·
   have hi3I : ¬ (i : Int) < 3 := by omega
   go_wp2_with fail
   go_ret
   exact ⟨rfl, HF.out.trans hf⟩
end Go.Proofs.YtgnjakaamgeibaaDoor
