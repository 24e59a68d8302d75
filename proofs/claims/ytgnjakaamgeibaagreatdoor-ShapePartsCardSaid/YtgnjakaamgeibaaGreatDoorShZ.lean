/-
  Case.shapes: four shapes with short strings. Conditions: the case lies in memory.
-/
import Derived.Test.YtgnjakaamgeibaaGreatDoorShW
namespace Go.Proofs.YtgnjakaamgeibaaGreatDoor
open Go.RowKit Go.Shelf
attribute [local go_sem] Oper.semAt_some
def ShG (a : Shp) : Prop := ShW a.lo a.hi a.cl a.bg a.en 12
theorem row_info28 : (Tryz.prog.info? 29).map (·.size) = some 20 := by kernel_rfl
theorem one_case (w : World) (ao ao1 : Option Addr) (n cap n1 cap1 : Nat) (l h c : Int) (b d t : ByteArray) : ∃ W x, w.alloc (.cells #[.slice ao n cap, .slice ao1 n1 cap1, .int .i64 l, .int .i64 h, .int .i64 c, .string b, .string d, .string t] 26) = W ∧ w.heap.size = x ∧ Frm (fun _ => False) w W ∧
    (W.cell? ⟨x, 0, none⟩ = some (.slice ao n cap) ∧ W.cell? ⟨x, 1, none⟩ = some (.slice ao1 n1 cap1) ∧ W.cell? ⟨x, 2, none⟩ = some (.int .i64 l) ∧ W.cell? ⟨x, 3, none⟩ = some (.int .i64 h) ∧ W.cell? ⟨x, 4, none⟩ = some (.int .i64 c) ∧ W.cell? ⟨x, 5, none⟩ = some (.string b) ∧ W.cell? ⟨x, 6, none⟩ = some (.string d) ∧ W.cell? ⟨x, 7, none⟩ = some (.string t)) := by
  have hg := heap_alloc_new w (.cells #[.slice ao n cap, .slice ao1 n1 cap1, .int .i64 l, .int .i64 h, .int .i64 c, .string b, .string d, .string t] 26)
  exact ⟨_, _, rfl, rfl, (Frm.refl _ _).alloc _, by rw [cell_of_row _ _ _ _ _ _ hg]; rfl, by rw [cell_of_row _ _ _ _ _ _ hg]; rfl, by rw [cell_of_row _ _ _ _ _ _ hg]; rfl, by rw [cell_of_row _ _ _ _ _ _ hg]; rfl, by rw [cell_of_row _ _ _ _ _ _ hg]; rfl, by rw [cell_of_row _ _ _ _ _ _ hg]; rfl, by rw [cell_of_row _ _ _ _ _ _ hg]; rfl, by rw [cell_of_row _ _ _ _ _ _ hg]; rfl⟩
theorem made8_v {ao : Option Addr} {n cap : Nat} {l : List Int} (w : World) (hI : IntsAt w ao l) (hn : l.length = n) (hb : n ≤ maxLen) :
    Calls Tryz.prog 23 #[.slice ao n cap] w fun e w' => ∃ a : Shp, e = .returned (.agg #[.int .i64 a.lo, .int .i64 a.hi, .int .i64 a.cl, .string a.bg, .string a.en]) ∧ ShG a ∧ Frm (fun _ => False) w w' := by
  refine (made8_any w hI hn hb).mono ?_
  rintro e w' ⟨l, h, c, b, d, rfl, hw, f⟩
  exact ⟨⟨l, h, c, b, d⟩, rfl, hw, f⟩
theorem cut8_v (l h c : Int) (b d : ByteArray) (hl : In64 l) (hh : In64 h) (hc : In64 c) (hb : b.size ≤ 9223372036854775807) (hd : d.size ≤ 9223372036854775807) (w : World) :
    Calls Tryz.prog 24 #[.agg #[.int .i64 l, .int .i64 h, .int .i64 c, .string b, .string d]] w fun e w' => ∃ a : Shp, e = .returned (.agg #[.int .i64 a.lo, .int .i64 a.hi, .int .i64 a.cl, .string a.bg, .string a.en]) ∧ ShG a ∧ Frm (fun _ => False) w w' := by
  refine (cut8_any l h c b d hl hh hc hb hd w).mono ?_
  rintro e w' ⟨l, h, c, b, d, rfl, hw, f⟩
  exact ⟨⟨l, h, c, b, d⟩, rfl, hw, f⟩
/-- A case that lies in memory. -/
structure CaseAt (w : World) (ao ao1 : Option Addr) (n n1 : Nat) (l h c : Int) (b d t : ByteArray) : Prop where
  qa : ∃ q : List Int, q.length = n ∧ IntsAt w ao q ∧ n ≤ maxLen
  qb : ∃ q : List Int, q.length = n1 ∧ IntsAt w ao1 q ∧ n1 ≤ maxLen
  lo : In64 l
  hi : In64 h
  cl : In64 c
  bg : b.size ≤ 9223372036854775807
  en : d.size ≤ 9223372036854775807
  tx : t.size ≤ 9223372036854775807
theorem CaseAt.still {w w' : World} {ao ao1 : Option Addr} {n n1 : Nat} {l h c : Int} {b d t : ByteArray} (k : CaseAt w ao ao1 n n1 l h c b d t) (f : Frm (fun _ => False) w w') : CaseAt w' ao ao1 n n1 l h c b d t := by
  obtain ⟨q, h1, h2, h3⟩ := k.qa
  obtain ⟨r, g1, g2, g3⟩ := k.qb
  exact ⟨⟨q, h1, h2.still f, h3⟩, ⟨r, g1, g2.still f, g3⟩, k.lo, k.hi, k.cl, k.bg, k.en, k.tx⟩
def row20 (s0 s1 s2 : Shp) : Array Value := #[.int .i64 s0.lo, .int .i64 s0.hi, .int .i64 s0.cl, .string s0.bg, .string s0.en, .int .i64 s1.lo, .int .i64 s1.hi, .int .i64 s1.cl, .string s1.bg, .string s1.en, .int .i64 s2.lo, .int .i64 s2.hi, .int .i64 s2.cl, .string s2.bg, .string s2.en, .int .i64 0, .int .i64 0, .int .i64 0, .string ⟨#[]⟩, .string ⟨#[]⟩]
set_option maxRecDepth 100000 in
set_option maxHeartbeats 4000000 in
theorem shapes_any {ao ao1 : Option Addr} {n cap n1 cap1 : Nat} {l h c : Int} {b d t : ByteArray} (w : World) (hC : CaseAt w ao ao1 n n1 l h c b d t) :
    Calls Tryz.prog 5 #[.agg #[.slice ao n cap, .slice ao1 n1 cap1, .int .i64 l, .int .i64 h, .int .i64 c, .string b, .string d, .string t]] w fun e w' => ∃ s0 s1 s2 : Shp, ShG s0 ∧ ShG s1 ∧ ShG s2 ∧ e = .returned (.agg (row20 s0 s1 s2)) ∧ Frm (fun _ => False) w w' := by
  obtain ⟨q, hq1, hq2, hq3⟩ := hC.qa
  obtain ⟨r, hr1, hr2, hr3⟩ := hC.qb
  have hA := fun (W : World) (f : Frm (fun _ => False) w W) => made8_v (cap := cap) W (hq2.still f) hq1 hq3
  have hB := fun (W : World) (f : Frm (fun _ => False) w W) => made8_v (cap := cap1) W (hr2.still f) hr1 hr3
  have hR := cut8_v l h c b d hC.lo hC.hi hC.cl hC.bg hC.en
  have HA := Lib.hid hA
  have HB := Lib.hid hB
  have HR := Lib.hid hR
  clear hA hB hR hq1 hq2 hq3 hr1 hr2 hr3 hC
  go_enter Tryz.func5, Tryz.ntmps5
  go_upto_region 1 with fail
  obtain ⟨W1, x, hW, hx, hf, a0, a1, a2, a3, a4, a5, a6, a7⟩ := one_case w ao ao1 n cap n1 cap1 l h c b d t
  have hsz : W1.heap.size = w.heap.size + 1 := by rw [← hW]; simp
  have hg0 := heap_alloc_new W1 (.cells #[.int .i64 0, .int .i64 0, .int .i64 0, .string ⟨#[]⟩, .string ⟨#[]⟩, .int .i64 0, .int .i64 0, .int .i64 0, .string ⟨#[]⟩, .string ⟨#[]⟩, .int .i64 0, .int .i64 0, .int .i64 0, .string ⟨#[]⟩, .string ⟨#[]⟩, .int .i64 0, .int .i64 0, .int .i64 0, .string ⟨#[]⟩, .string ⟨#[]⟩] 29)
  have hf1 := (Frm.refl (fun _ => False) W1).alloc (.cells #[.int .i64 0, .int .i64 0, .int .i64 0, .string ⟨#[]⟩, .string ⟨#[]⟩, .int .i64 0, .int .i64 0, .int .i64 0, .string ⟨#[]⟩, .string ⟨#[]⟩, .int .i64 0, .int .i64 0, .int .i64 0, .string ⟨#[]⟩, .string ⟨#[]⟩, .int .i64 0, .int .i64 0, .int .i64 0, .string ⟨#[]⟩, .string ⟨#[]⟩] 29)
  rw [hsz] at hg0
  rw [hW]
  obtain ⟨W2, hW2⟩ : ∃ W, W = W1.alloc (.cells #[.int .i64 0, .int .i64 0, .int .i64 0, .string ⟨#[]⟩, .string ⟨#[]⟩, .int .i64 0, .int .i64 0, .int .i64 0, .string ⟨#[]⟩, .string ⟨#[]⟩, .int .i64 0, .int .i64 0, .int .i64 0, .string ⟨#[]⟩, .string ⟨#[]⟩, .int .i64 0, .int .i64 0, .int .i64 0, .string ⟨#[]⟩, .string ⟨#[]⟩] 29) := ⟨_, rfl⟩
  rw [← hW2] at hg0 hf1
  rw [← hW2]
  have hgn : w.heap.size ≤ x + 1 := by omega
  have hxg : x ≠ x + 1 := by omega
  rw [hx] at hg0 ⊢
  generalize x + 1 = g at *
  have a0 := hf1.cell a0 (fun h => h)
  have a1 := hf1.cell a1 (fun h => h)
  have a2 := hf1.cell a2 (fun h => h)
  have a3 := hf1.cell a3 (fun h => h)
  have a4 := hf1.cell a4 (fun h => h)
  have a5 := hf1.cell a5 (fun h => h)
  have a6 := hf1.cell a6 (fun h => h)
  have a7 := hf1.cell a7 (fun h => h)
  have HF := Lib.hid (hf.trans hf1).drew
  clear hW hx hf hf1 hW2 hsz
  refine wp_region_held_drew (S := fun w' => w'.cell? ⟨x, 0, none⟩ = some (.slice ao n cap) ∧ w'.cell? ⟨x, 1, none⟩ = some (.slice ao1 n1 cap1) ∧ w'.cell? ⟨x, 2, none⟩ = some (.int .i64 (l)) ∧ w'.cell? ⟨x, 3, none⟩ = some (.int .i64 (h)) ∧ w'.cell? ⟨x, 4, none⟩ = some (.int .i64 (c)) ∧ w'.cell? ⟨x, 5, none⟩ = some (.string (b)) ∧ w'.cell? ⟨x, 6, none⟩ = some (.string (d)) ∧ w'.cell? ⟨x, 7, none⟩ = some (.string (t)) ∧ ∃ cs, w'.heap[g]? = some (.cells cs 29 (0, 0)) ∧ cs.size = 20) (by kernel_rfl) ⟨a0, a1, a2, a3, a4, a5, a6, a7, _, hg0, rfl⟩ (fun hHeld => ?_)
  refine wpAnyH_take (i := 0) (oi := ⟨some 3, _, _, _, _, _⟩) (v := (.pointer (some ⟨x, 0, none⟩))) rfl (by kernel_rfl) (by kernel_rfl) (by kernel_rfl) (fun _ _ _ h => h) (.inl ⟨by rfl, fun w hw => by dsimp only at hw; go_simp⟩) hHeld ?_
  simp only [Act.put, List.setIfInBounds_toArray, List.set_cons_zero, List.set_cons_succ]
  refine wpAnyH_take (i := 1) (oi := ⟨some 4, _, _, _, _, _⟩) (v := (.slice ao n cap)) rfl (by kernel_rfl) (by kernel_rfl) (by kernel_rfl) (fun _ _ _ h => h) (.inl ⟨by rfl, fun w hw => by dsimp only at hw; go_simp⟩) hHeld ?_
  simp only [Act.put, List.setIfInBounds_toArray, List.set_cons_zero, List.set_cons_succ]
  refine wpAnyH_take (i := 3) (oi := ⟨some 6, _, _, _, _, _⟩) (v := (.pointer (some ⟨x, 1, none⟩))) rfl (by kernel_rfl) (by kernel_rfl) (by kernel_rfl) (fun _ _ _ h => h) (.inl ⟨by rfl, fun w hw => by dsimp only at hw; go_simp⟩) hHeld ?_
  simp only [Act.put, List.setIfInBounds_toArray, List.set_cons_zero, List.set_cons_succ]
  refine wpAnyH_take (i := 4) (oi := ⟨some 7, _, _, _, _, _⟩) (v := (.slice ao1 n1 cap1)) rfl (by kernel_rfl) (by kernel_rfl) (by kernel_rfl) (fun _ _ _ h => h) (.inl ⟨by rfl, fun w hw => by dsimp only at hw; go_simp⟩) hHeld ?_
  simp only [Act.put, List.setIfInBounds_toArray, List.set_cons_zero, List.set_cons_succ]
  refine wpAnyH_take (i := 6) (oi := ⟨some 9, _, _, _, _, _⟩) (v := (.pointer (some ⟨x, 2, none⟩))) rfl (by kernel_rfl) (by kernel_rfl) (by kernel_rfl) (fun _ _ _ h => h) (.inl ⟨by rfl, fun w hw => by dsimp only at hw; go_simp⟩) hHeld ?_
  simp only [Act.put, List.setIfInBounds_toArray, List.set_cons_zero, List.set_cons_succ]
  refine wpAnyH_take (i := 7) (oi := ⟨some 10, _, _, _, _, _⟩) (v := (.agg #[.int .i64 (l), .int .i64 (h), .int .i64 (c), .string (b), .string (d)])) rfl (by kernel_rfl) (by kernel_rfl) (by kernel_rfl) (fun _ _ _ h => h) (.inl ⟨by rfl, fun w hw => by dsimp only at hw; go_simp⟩) hHeld ?_
  simp only [Act.put, List.setIfInBounds_toArray, List.set_cons_zero, List.set_cons_succ]
  refine wpAnyH_take (i := 9) (oi := ⟨some 12, _, _, _, _, _⟩) (v := (.agg #[.int .i64 (0), .int .i64 (0), .int .i64 (0), .string (⟨#[]⟩), .string (⟨#[]⟩)])) rfl (by kernel_rfl) (by kernel_rfl) (by kernel_rfl) (fun _ _ _ h => h) (.inl ⟨by rfl, fun w hw => by dsimp only at hw; go_simp⟩) hHeld ?_
  simp only [Act.put, List.setIfInBounds_toArray, List.set_cons_zero, List.set_cons_succ]
  refine wpAnyH_ready (rs := [2]) (by kernel_rfl) (by simp) ?_
  refine AllReadyH.cons (o := ⟨some 5, _, _, _, _, _⟩) rfl (fun K hK => ?_) AllReadyH.nil
  go_simp
  refine (HA.out _ HF.out).mono ?_
  rintro e V1 ⟨s0, rfl, hs0, f1⟩
  have HF1 := Lib.hid (HF.out.trans f1)
  refine hK.out _ _ ⟨f1.cell hHeld.1 (fun h => h), f1.cell hHeld.2.1 (fun h => h), f1.cell hHeld.2.2.1 (fun h => h), f1.cell hHeld.2.2.2.1 (fun h => h), f1.cell hHeld.2.2.2.2.1 (fun h => h), f1.cell hHeld.2.2.2.2.2.1 (fun h => h), f1.cell hHeld.2.2.2.2.2.2.1 (fun h => h), f1.cell hHeld.2.2.2.2.2.2.2.1 (fun h => h), (Exists.imp (fun _ h => ⟨f1.heap h.1 (fun h => h), h.2⟩) (hHeld.2.2.2.2.2.2.2.2))⟩ (fun hHeld => ?_)
  clear hK K f1 HF
  refine wpAnyH_ready (rs := [5]) (by kernel_rfl) (by simp) ?_
  refine AllReadyH.cons (o := ⟨some 8, _, _, _, _, _⟩) rfl (fun K hK => ?_) AllReadyH.nil
  go_simp
  refine (HB.out _ HF1.out).mono ?_
  rintro e V2 ⟨s1, rfl, hs1, f2⟩
  have HF2 := Lib.hid (HF1.out.trans f2)
  refine hK.out _ _ ⟨f2.cell hHeld.1 (fun h => h), f2.cell hHeld.2.1 (fun h => h), f2.cell hHeld.2.2.1 (fun h => h), f2.cell hHeld.2.2.2.1 (fun h => h), f2.cell hHeld.2.2.2.2.1 (fun h => h), f2.cell hHeld.2.2.2.2.2.1 (fun h => h), f2.cell hHeld.2.2.2.2.2.2.1 (fun h => h), f2.cell hHeld.2.2.2.2.2.2.2.1 (fun h => h), (Exists.imp (fun _ h => ⟨f2.heap h.1 (fun h => h), h.2⟩) (hHeld.2.2.2.2.2.2.2.2))⟩ (fun hHeld => ?_)
  clear hK K f2 HF1
  refine wpAnyH_ready (rs := [8]) (by kernel_rfl) (by simp) ?_
  refine AllReadyH.cons (o := ⟨some 11, _, _, _, _, _⟩) rfl (fun K hK => ?_) AllReadyH.nil
  go_simp
  refine (HR.out _).mono ?_
  rintro e V3 ⟨s2, rfl, hs2, f3⟩
  have HF3 := Lib.hid (HF2.out.trans f3)
  refine hK.out _ _ ⟨f3.cell hHeld.1 (fun h => h), f3.cell hHeld.2.1 (fun h => h), f3.cell hHeld.2.2.1 (fun h => h), f3.cell hHeld.2.2.2.1 (fun h => h), f3.cell hHeld.2.2.2.2.1 (fun h => h), f3.cell hHeld.2.2.2.2.2.1 (fun h => h), f3.cell hHeld.2.2.2.2.2.2.1 (fun h => h), f3.cell hHeld.2.2.2.2.2.2.2.1 (fun h => h), (Exists.imp (fun _ h => ⟨f3.heap h.1 (fun h => h), h.2⟩) (hHeld.2.2.2.2.2.2.2.2))⟩ (fun hHeld => ?_)
  clear hK K f3 HF2
  refine wpAnyH_take (i := 10) (oi := ⟨some 13, _, _, _, _, _⟩) (v := (.agg #[.int .i64 (s0.lo), .int .i64 (s0.hi), .int .i64 (s0.cl), .string (s0.bg), .string (s0.en), .int .i64 (s1.lo), .int .i64 (s1.hi), .int .i64 (s1.cl), .string (s1.bg), .string (s1.en), .int .i64 (s2.lo), .int .i64 (s2.hi), .int .i64 (s2.cl), .string (s2.bg), .string (s2.en), .int .i64 (0), .int .i64 (0), .int .i64 (0), .string (⟨#[]⟩), .string (⟨#[]⟩)])) rfl (by kernel_rfl) (by kernel_rfl) (by kernel_rfl) (fun _ _ _ h => h) (.inl ⟨by rfl, fun w hw => by dsimp only at hw; go_simp⟩) hHeld ?_
  simp only [Act.put, List.setIfInBounds_toArray, List.set_cons_zero, List.set_cons_succ]
  refine wpAnyH_ready (rs := [11]) (by kernel_rfl) (by simp) ?_
  refine AllReadyH.cons (o := ⟨none, _, _, _, _, _⟩) rfl (fun K hK => ?_) AllReadyH.nil
  obtain ⟨cs0, hrow, hcs⟩ := hHeld.2.2.2.2.2.2.2.2
  rw [if_pos (show Region.wanted _ _ = true from rfl)]
  refine wp_store_row 29 _ _ rfl g (row20 s0 s1 s2) rfl rfl 29 _ hrow row_info28 (by rw [hcs]; rfl) (by simp [row20, Value.oneCell']) ?_
  have hfin := setRow_heap V3 g cs0 (row20 s0 s1 s2) 29 (0, 0) hrow
  refine hK.out _ _ (by exact ⟨(by rw [cell_setRow_other _ _ _ _ hxg]; exact hHeld.1), (by rw [cell_setRow_other _ _ _ _ hxg]; exact hHeld.2.1), (by rw [cell_setRow_other _ _ _ _ hxg]; exact hHeld.2.2.1), (by rw [cell_setRow_other _ _ _ _ hxg]; exact hHeld.2.2.2.1), (by rw [cell_setRow_other _ _ _ _ hxg]; exact hHeld.2.2.2.2.1), (by rw [cell_setRow_other _ _ _ _ hxg]; exact hHeld.2.2.2.2.2.1), (by rw [cell_setRow_other _ _ _ _ hxg]; exact hHeld.2.2.2.2.2.2.1), (by rw [cell_setRow_other _ _ _ _ hxg]; exact hHeld.2.2.2.2.2.2.2.1), _, hfin, rfl⟩) (fun hHeld => ?_)
  clear hK K
  refine wpAnyH_done (by kernel_rfl) ?_ _
  go_wp2_with fail
  exact bodyPost_ret (results_cell_row Tryz.results5 _ _ g 29 _ (0, 0) _ rfl hfin Tryz.underlying29 rfl row_info28) rfl ⟨s0, hs0, s1, hs1, s2, hs2, rfl, HF3.out.setRow (.inr hgn) _⟩
theorem row20_one (s0 s1 s2 : Shp) : (row20 s0 s1 s2).all (·.oneCell') = true := by simp [row20, Value.oneCell']
theorem arr_new (W : World) (s0 s1 s2 : Shp) : ∃ W' L, (W.alloc (.cells #[.int .i64 0, .int .i64 0, .int .i64 0, .string ⟨#[]⟩, .string ⟨#[]⟩, .int .i64 0, .int .i64 0, .int .i64 0, .string ⟨#[]⟩, .string ⟨#[]⟩, .int .i64 0, .int .i64 0, .int .i64 0, .string ⟨#[]⟩, .string ⟨#[]⟩, .int .i64 0, .int .i64 0, .int .i64 0, .string ⟨#[]⟩, .string ⟨#[]⟩] 29)).setRow W.heap.size (row20 s0 s1 s2) = W' ∧ W.heap.size = L ∧ W'.heap[L]? = some (.cells (row20 s0 s1 s2) 29 (0, 0)) ∧ Frm (fun _ => False) W W' :=
  ⟨_, _, rfl, rfl, setRow_heap _ _ _ _ _ _ (heap_alloc_new W _), ((Frm.refl _ _).alloc _).setRow (.inr (Nat.le_refl _)) _⟩
/-- Four shapes that lie in a block of an array. -/
def Sh4 (w : World) (L : Nat) (S : Nat → Shp) : Prop := ∀ i, i < 4 → w.cell? ⟨L, i * 5, none⟩ = some (.int .i64 (S i).lo) ∧ w.cell? ⟨L, i * 5 + 1, none⟩ = some (.int .i64 (S i).hi) ∧ w.cell? ⟨L, i * 5 + 2, none⟩ = some (.int .i64 (S i).cl) ∧ w.cell? ⟨L, i * 5 + 3, none⟩ = some (.string (S i).bg) ∧ w.cell? ⟨L, i * 5 + 4, none⟩ = some (.string (S i).en)
theorem Sh4.still {w w' : World} {L : Nat} {S : Nat → Shp} (h : Sh4 w L S) (f : Frm (fun _ => False) w w') : Sh4 w' L S := fun i hi => by
  obtain ⟨h1, h2, h3, h4, h5⟩ := h i hi
  exact ⟨f.cell h1 (fun h => h), f.cell h2 (fun h => h), f.cell h3 (fun h => h), f.cell h4 (fun h => h), f.cell h5 (fun h => h)⟩
theorem sh4_of {w : World} {L : Nat} {s0 s1 s2 : Shp} (h0 : ShG s0) (h1 : ShG s1) (h2 : ShG s2) (h : w.heap[L]? = some (.cells (row20 s0 s1 s2) 29 (0, 0))) : ∃ S : Nat → Shp, Sh4 w L S ∧ ∀ i, i < 4 → ShG (S i) := by
  refine ⟨fun i => if i = 0 then s0 else if i = 1 then s1 else if i = 2 then s2 else ⟨0, 0, 0, ⟨#[]⟩, ⟨#[]⟩⟩, fun i hi => ?_, fun i hi => ?_⟩
  · have : i = 0 ∨ i = 1 ∨ i = 2 ∨ i = 3 := by omega
    rcases this with rfl | rfl | rfl | rfl <;> exact ⟨by rw [cell_of_row _ _ _ _ _ _ h]; rfl, by rw [cell_of_row _ _ _ _ _ _ h]; rfl, by rw [cell_of_row _ _ _ _ _ _ h]; rfl, by rw [cell_of_row _ _ _ _ _ _ h]; rfl, by rw [cell_of_row _ _ _ _ _ _ h]; rfl⟩
  · have : i = 0 ∨ i = 1 ∨ i = 2 ∨ i = 3 := by omega
    rcases this with rfl | rfl | rfl | rfl
    · exact h0
    · exact h1
    · exact h2
    · show ShG ⟨0, 0, 0, ⟨#[]⟩, ⟨#[]⟩⟩
      exact ⟨⟨by decide, by decide⟩, ⟨by decide, by decide⟩, ⟨by decide, by decide⟩, by decide, by decide⟩
end Go.Proofs.YtgnjakaamgeibaaGreatDoor
