/-
  shape.Pattern: what the code does. Conditions: the pieces lie in memory, few and short.
-/
import Derived.Test.YtgnjakaamgeibaaGreatDoorShN
import Derived.Test.YtgnjakaamgeibaaGreatDoorRgt
import Derived.StillTailTactics
namespace Go.Proofs.YtgnjakaamgeibaaGreatDoor
open Go.RowKit Go.Shelf
attribute [local go_sem] Oper.semAt_some
theorem clb_any (k : Int) (h1 : 1 ≤ k) (h7 : k ≤ 7) (w : World) : Calls Tryz.prog 53 #[.int .i64 k] w fun e w' => e = .returned (.int .i64 (cbI k)) ∧ w = w' := by
  have hk : k = 1 ∨ k = 2 ∨ k = 3 ∨ k = 4 ∨ k = 5 ∨ k = 6 ∨ k = 7 := by omega
  rcases hk with rfl | rfl | rfl | rfl | rfl | rfl | rfl
  all_goals
    go_enter Tryz.func53, Tryz.ntmps53
    go_wp2_with fail
    go_ret
    exact ⟨rfl, rfl⟩
/-- What the rounds over the pieces have made of a shape. -/
def pkS (ps : List Pc) (k : Nat) : Shp := ⟨sumL leastP (ps.take k), sumL mostP (ps.take k), clL (ps.take k), if 0 < k then litT ps.head? else ⟨#[]⟩, if k = ps.length then litT ps.getLast? else ⟨#[]⟩⟩
theorem clL_snoc (ps : List Pc) (p : Pc) : clL (ps ++ [p]) = iOr (clL ps) (clP p) := by simp [clL]
theorem pk_succ {ps : List Pc} {k : Nat} (h : k < ps.length) :
    sumL leastP (ps.take (k + 1)) = sumL leastP (ps.take k) + leastP ps[k] ∧ sumL mostP (ps.take (k + 1)) = sumL mostP (ps.take k) + mostP ps[k] ∧ clL (ps.take (k + 1)) = bits .or .i64 (clL (ps.take k)) (clP ps[k]) := by
  rw [List.take_succ_eq_append_getElem h, sum_snoc, sum_snoc, clL_snoc, bits_or]
  exact ⟨rfl, rfl, rfl⟩
/-- The pieces of a right pattern are small. -/
theorem right_sum {ps : List Pc} (h : ∀ p ∈ ps, pieceB p = true) (hsm : Small ps) (k : Nat) : 0 ≤ sumL leastP (ps.take k) ∧ sumL leastP (ps.take k) ≤ 1000000 * k ∧ 0 ≤ sumL mostP (ps.take k) ∧ sumL mostP (ps.take k) ≤ 1000000 * k := by
  induction k with
  | zero => simp [sumL]
  | succ k ih =>
    by_cases hk : k < ps.length
    · obtain ⟨e1, e2, -⟩ := pk_succ hk
      rw [e1, e2]
      have hp := h _ (List.getElem_mem hk)
      have hs := hsm _ (List.getElem_mem hk)
      have hb : 0 ≤ leastP ps[k] ∧ leastP ps[k] ≤ 1000000 ∧ 0 ≤ mostP ps[k] ∧ mostP ps[k] ≤ 1000000 := by
        have hl := size_list ps[k].txt
        unfold leastP mostP Pc.t
        rw [hl]
        unfold pieceB at hp
        by_cases hc : ps[k].cls = 0
        · rw [if_pos hc, if_pos hc]; omega
        · rw [if_neg hc] at hp
          simp only [Bool.and_eq_true, decide_eq_true_eq] at hp
          rw [if_neg hc, if_neg hc]
          omega
      omega
    · rw [List.take_of_length_le (by omega)]
      rw [List.take_of_length_le (by omega)] at ih
      omega
theorem wrt_nil {ps : List Pc} (h : rightB ps = true) (h0 : 0 < ps.length) : ((⟨(printL ps).toArray⟩ : ByteArray)).toList ≠ [] := by
  unfold printL
  rw [h, toList_data]
  show wrt ps ≠ []
  intro e
  have h1 : pcsB false ps = true := by unfold rightB at h; rw [Bool.and_eq_true] at h; exact h.1
  have := wrt_len ps false h1
  rw [e] at this
  simp at this
  rw [this] at h0
  cases h0
/-- A box with a piece. -/
theorem one_pc (w : World) (p : Pc) : ∃ W q, w.alloc (.cells #[.int .i64 p.cls, .int .i64 p.lo, .int .i64 p.hi, .string p.txt] 66) = W ∧ w.heap.size = q ∧ Frm (fun _ => False) w W ∧
    (W.cell? ⟨q, 0, none⟩ = some (.int .i64 p.cls) ∧ W.cell? ⟨q, 1, none⟩ = some (.int .i64 p.lo) ∧ W.cell? ⟨q, 2, none⟩ = some (.int .i64 p.hi) ∧ W.cell? ⟨q, 3, none⟩ = some (.string p.txt)) := by
  have hg := heap_alloc_new w (.cells #[.int .i64 p.cls, .int .i64 p.lo, .int .i64 p.hi, .string p.txt] 66)
  exact ⟨_, _, rfl, rfl, (Frm.refl _ _).alloc _, by rw [cell_of_row _ _ _ _ _ _ hg]; rfl, by rw [cell_of_row _ _ _ _ _ _ hg]; rfl, by rw [cell_of_row _ _ _ _ _ _ hg]; rfl, by rw [cell_of_row _ _ _ _ _ _ hg]; rfl⟩
def shRow (a : Shp) : Obj := .cells #[.int .i64 a.lo, .int .i64 a.hi, .int .i64 a.cl, .string a.bg, .string a.en] 24
theorem pk_end {ps : List Pc} (h : rightB ps = true) : patS ps = if 200 < (pkS ps ps.length).lo then none' else ⟨(pkS ps ps.length).lo, min (pkS ps ps.length).hi 200, (pkS ps ps.length).cl, (pkS ps ps.length).bg, (pkS ps ps.length).en⟩ := by
  unfold patS pkS
  rw [h, if_neg (by simp), List.take_length, if_pos rfl]
  by_cases h0 : 0 < ps.length
  · simp only [if_pos h0]
  · have : ps = [] := List.eq_nil_of_length_eq_zero (by omega)
    subst this
    rfl
/-- One round, of a run. -/
theorem pk_run {ps : List Pc} {k : Nat} (h : k < ps.length) (hc : ps[k].cls ≠ 0) : pkS ps (k + 1) = ⟨(pkS ps k).lo + ps[k].lo, (pkS ps k).hi + ps[k].hi, bits .or .i64 (pkS ps k).cl (cbI ps[k].cls), (pkS ps k).bg, (pkS ps k).en⟩ := by
  obtain ⟨e1, e2, e3⟩ := pk_succ h
  unfold pkS
  rw [e1, e2, e3]
  have l1 : leastP ps[k] = ps[k].lo := by unfold leastP; rw [if_neg hc]
  have l2 : mostP ps[k] = ps[k].hi := by unfold mostP; rw [if_neg hc]
  have l3 : clP ps[k] = cbI ps[k].cls := by unfold clP; rw [if_neg hc]
  rw [l1, l2, l3, if_pos (by omega : 0 < k + 1), if_neg (by omega : ¬ k = ps.length)]
  have b1 : litT ps.head? = if 0 < k then litT ps.head? else ⟨#[]⟩ := by
    by_cases h0 : 0 < k
    · rw [if_pos h0]
    · rw [if_neg h0]
      obtain rfl : k = 0 := by omega
      rw [List.head?_eq_getElem?, List.getElem?_eq_getElem h]
      unfold litT
      simp only [if_neg hc]
  have b2 : (if k + 1 = ps.length then litT ps.getLast? else ⟨#[]⟩) = (⟨#[]⟩ : ByteArray) := by
    split
    · rename_i e
      rw [List.getLast?_eq_getElem?, ← e, Nat.add_sub_cancel, List.getElem?_eq_getElem h]
      unfold litT
      simp only [if_neg hc]
    · rfl
  rw [← b1, b2]
/-- One round, of a literal. -/
theorem pk_lit {ps : List Pc} {k : Nat} (h : k < ps.length) (hc : ps[k].cls = 0) : pkS ps (k + 1) = ⟨(pkS ps k).lo + ps[k].txt.size, (pkS ps k).hi + ps[k].txt.size, bits .or .i64 (pkS ps k).cl (bitsI ps[k].txt.data.toList), if k = 0 then ps[k].txt else (pkS ps k).bg, if k = ps.length - 1 then ps[k].txt else (pkS ps k).en⟩ := by
  obtain ⟨e1, e2, e3⟩ := pk_succ h
  unfold pkS
  rw [e1, e2, e3]
  have l1 : leastP ps[k] = ps[k].txt.size := by unfold leastP Pc.t; rw [if_pos hc, size_list]
  have l2 : mostP ps[k] = ps[k].txt.size := by unfold mostP Pc.t; rw [if_pos hc, size_list]
  have l3 : clP ps[k] = bitsI ps[k].txt.data.toList := by unfold clP; rw [if_pos hc]
  rw [l1, l2, l3, if_pos (by omega : 0 < k + 1), if_neg (by omega : ¬ k = ps.length)]
  have b1 : litT ps.head? = if k = 0 then ps[k].txt else if 0 < k then litT ps.head? else ⟨#[]⟩ := by
    by_cases h0 : k = 0
    · subst h0
      rw [if_pos rfl, List.head?_eq_getElem?, List.getElem?_eq_getElem h]
      unfold litT
      simp only [if_pos hc]
    · rw [if_neg h0, if_pos (by omega)]
  have b2 : (if k + 1 = ps.length then litT ps.getLast? else ⟨#[]⟩) = (if k = ps.length - 1 then ps[k].txt else ⟨#[]⟩ : ByteArray) := by
    by_cases e : k + 1 = ps.length
    · rw [if_pos e, if_pos (by omega), List.getLast?_eq_getElem?, ← e, Nat.add_sub_cancel, List.getElem?_eq_getElem h]
      unfold litT
      simp only [if_pos hc]
    · rw [if_neg e, if_neg (by omega)]
  rw [← b1, b2]
set_option maxRecDepth 100000 in
set_option maxHeartbeats 8000000 in
theorem pat_any {v : Value} {ps : List Pc} (w : World) (hP : Pcs w v ps) (hsm : Small ps) (hn : ps.length ≤ 1000) (hT : Tabs w) :
    Calls Tryz.prog 20 #[v] w fun e w' => e = .returned (shV (patS ps)) ∧ Frm (fun _ => False) w w' := by
  have hpr := fun (W : World) (f : Frm (fun _ => False) w W) => print_any W (hP.still f) hsm hn (hT.frm f)
  unfold strV at hpr
  have hZ0 : rightB ps = false → (⟨(printL ps).toArray⟩ : ByteArray).toList = [] := fun h => by rw [toList_data]; simp [printL, h]
  have hZ1 : rightB ps = true → 0 < ps.length → (⟨(printL ps).toArray⟩ : ByteArray).toList ≠ [] := wrt_nil
  generalize (⟨(printL ps).toArray⟩ : ByteArray) = Z at *
  have hnone := empty_any
  unfold shV none' at hnone
  simp only at hnone
  have Hnone := Lib.hid hnone
  have Hpr := Lib.hid hpr
  have HP := Lib.hid hP
  obtain ⟨ao, cap, rfl⟩ := hP.form
  clear hnone hpr hT hP
  have hr0 := Res.start w w (Frm.refl _ _)
  obtain ⟨W0, hW0⟩ : ∃ W, W = w.alloc (.cells #[.int .i64 0, .int .i64 0, .int .i64 0, .string ⟨#[]⟩, .string ⟨#[]⟩] 24) := ⟨_, rfl⟩
  obtain ⟨g, hg⟩ : ∃ g, g = w.heap.size := ⟨_, rfl⟩
  rw [← hW0, ← hg] at hr0
  go_enter Tryz.func20, Tryz.ntmps20
  go_upto_region 1 with fail
  rw [← hW0, ← hg]
  clear hW0 hg
  have Hr0 := Lib.hid hr0
  clear hr0
  cases hr : rightB ps
  · have hpos : 0 < ps.length := by
      rcases Nat.eq_zero_or_pos ps.length with h | h
      · rw [List.eq_nil_of_length_eq_zero h] at hr; cases hr
      · exact h
    have hposI : (0 : Int) < (ps.length : Int) := by omega
    have hz := hZ0 hr
    have hR : patS ps = none' := by unfold patS; rw [hr]; rfl
    have HR := Lib.hid hR
    clear hR hZ0 hZ1 hr hpos
    go_wp2_with fail
    refine (Hpr.out _ Hr0.out.frm).mono ?_
    rintro e W1 ⟨rfl, f1⟩
    have hres := Hr0.out.still f1
    clear f1
    have hz2 : (Z.toList == []) = true := by rw [hz]; rfl
    go_wp2_with fail
    refine (Hnone.out _).mono ?_
    rintro e W2 ⟨rfl, f2⟩
    have hres := hres.still f2
    obtain ⟨u0, u1, u2, u3, u4, ⟨c0, c1, c2, c3, c4⟩, z0, z1, z2, z3, z4⟩ := hres.facts
    have Hr := Lib.hid hres
    clear hres f2
    go_wp2_with fail
    exact Hr.out.ret Tryz.results20 rfl rfl fun W f => ⟨by rw [HR.out]; rfl, f⟩
  · have hmem := right_mem hr
    have hE := pk_end hr
    have hsum := right_sum hmem hsm
    have HE := Lib.hid hE
    have Hsum := Lib.hid hsum
    have Hmem := Lib.hid hmem
    have Hsm := Lib.hid hsm
    clear hE hsum hmem hsm hZ0
    go_cut [13] from 14 (fun s13 wx => s13 = .bool false ∧ Res w wx g)
    case first =>
      by_cases h0 : 0 < ps.length
      · have h0I : (0 : Int) < (ps.length : Int) := by omega
        have hz := hZ1 hr h0
        have hz2 : (Z.toList == []) = false := by
          cases hq : Z.toList with
          | nil => exact absurd hq hz
          | cons a l => rfl
        clear h0 hr hZ1
        go_wp2_with fail
        refine (Hpr.out _ Hr0.out.frm).mono ?_
        rintro e W1 ⟨rfl, f1⟩
        have Hres := Lib.hid (Hr0.out.still f1)
        clear f1
        go_wp2_with fail
        go_meet
        case rel => exact ⟨rfl, Hres.out⟩
      · have h0I : ¬ (0 : Int) < (ps.length : Int) := by omega
        clear h0 hr hZ1
        go_wp2_with fail
        go_meet
        case rel => exact ⟨rfl, Hr0.out⟩
    case rest =>
      obtain ⟨rfl, hres⟩ := hcut
      clear hZ1 hr Hr0 Hpr
      have hrm := Res.start w _ hres.frm
      have hrow := heap_alloc_new wc (.cells #[.int .i64 0, .int .i64 0, .int .i64 0, .string ⟨#[]⟩, .string ⟨#[]⟩] 24)
      have hfa := (Frm.refl (fun _ => False) wc).alloc (.cells #[.int .i64 0, .int .i64 0, .int .i64 0, .string ⟨#[]⟩, .string ⟨#[]⟩] 24)
      have hngm : g ≠ wc.heap.size := fun e => by have := hres.lt; omega
      have hres := hres.still hfa
      go_upto_region 4 with fail
      obtain ⟨W1, hW1⟩ : ∃ W, W = wc.alloc (.cells #[.int .i64 0, .int .i64 0, .int .i64 0, .string ⟨#[]⟩, .string ⟨#[]⟩] 24) := ⟨_, rfl⟩
      obtain ⟨m, hm⟩ : ∃ m, m = wc.heap.size := ⟨_, rfl⟩
      rw [← hW1, ← hm] at hrm hrow
      rw [← hm] at hngm
      rw [← hW1] at hres
      rw [← hW1, ← hm]
      clear hW1 hm hfa
      have hk0 : pkS ps 0 = ⟨0, 0, 0, ⟨#[]⟩, ⟨#[]⟩⟩ := by
        unfold pkS
        rw [List.take_zero, if_neg (by omega)]
        split
        · rename_i h
          rw [List.eq_nil_of_length_eq_zero h.symm]
          rfl
        · rfl
      have hrow : Hid (W1.heap[m]? = some (shRow (pkS ps 0))) := Lib.hid (by rw [hk0]; exact hrow)
      have Hres := Lib.hid hres
      have Hrm := Lib.hid hrm
      clear hk0 hres hrm
      go_wp2_with fail
      go_loopw [17] (fun s wr => ∃ k : Nat, s = .int .i64 k ∧ k ≤ ps.length ∧ Hid (wr.heap[m]? = some (shRow (pkS ps k))) ∧ Hid (Res w wr g) ∧ Hid (Res w wr m)) (fun s _ => ps.length - (intOf s).toNat)
      case atStart => exact ⟨0, rfl, Nat.zero_le _, hrow, Hres, Hrm⟩
      case round =>
        clear hrow Hres Hrm
        obtain ⟨k, rfl, hk, hrow, hres, hrm⟩ := hrel
        have hs4 := Hsum.out k
        by_cases hlt : k < ps.length
        · have hltI : (k : Int) < (ps.length : Int) := by omega
          obtain ⟨gp, hao, ⟨c0, c1, c2, c3⟩, -⟩ := (HP.out.still hres.out.frm).at' k hlt
          subst hao
          have hpp := Hmem.out _ (List.getElem_mem hlt)
          have hps := Hsm.out _ (List.getElem_mem hlt)
          have hrun := pk_run hlt
          have hlit := pk_lit hlt
          have e1 : sumL leastP (ps.take k) = (pkS ps k).lo := rfl
          have e2 : sumL mostP (ps.take k) = (pkS ps k).hi := rfl
          rw [e1, e2] at hs4
          have hr1 := hrow.out
          unfold shRow at hr1
          generalize ps[k] = p at *
          generalize pkS ps k = a at *
          have Hrun := Lib.hid hrun
          have Hlit := Lib.hid hlit
          clear hrun hlit e1 e2 hrow
          obtain ⟨W2, q, hW2, hq, hf2, q0, q1, q2, q3⟩ := one_pc wr p
          have hnqm : q ≠ m := fun e => by have := hrm.out.lt; omega
          have hr1 := hf2.heap hr1 (fun h => h)
          have hres2 := hres.out.still hf2
          have hrm2 := hrm.out.still hf2
          obtain ⟨⟨k0, k1, k2, k3, k4⟩, z0, z1, z2, z3, z4⟩ := row_facts hr1
          go_upto_region 7 with fail
          clear hW2 hq hf2 c0 c1 c2 c3 hres hrm
          by_cases hc : p.cls = 0
          · have hnx := Hlit.out hc
            have w1 : IntKind.i64.wrap (a.lo + p.txt.size) = a.lo + p.txt.size := IntWalk.i64_in _ (by omega)
            have w2 : IntKind.i64.wrap (a.hi + p.txt.size) = a.hi + p.txt.size := IntWalk.i64_in _ (by omega)
            have hbt := bitsOf_any p.txt (by omega)
            have Hbt := Lib.hid hbt
            have Hnx := Lib.hid hnx
            clear Hrun Hlit hnx hbt hpp
            go_upto_region 13 with fail
            obtain ⟨W3, hW3, hr1, hf3, hc3, hh3⟩ := hrm2.field hr1 0 (.int .i64 (a.lo + p.txt.size))
            rw [hW3]
            have hrm3 : Res w W3 m := ⟨hf3, hrm2.new, _, _, _, _, _, hr1⟩
            obtain ⟨W4, hW4, hr1, hf4, hc4, hh4⟩ := hrm3.field hr1 1 (.int .i64 (a.hi + p.txt.size))
            rw [hW4]
            have hr1 : W4.heap[m]? = some (.cells #[.int .i64 (a.lo + p.txt.size), .int .i64 (a.hi + p.txt.size), .int .i64 a.cl, .string a.bg, .string a.en] 24 (0, 0)) := hr1
            have hrm4 : Res w W4 m := ⟨hf4, hrm2.new, _, _, _, _, _, hr1⟩
            have hres4 := (hres2.move hf3 (hh3 _ hngm)).move hf4 (hh4 _ hngm)
            have b0 := hc4 _ _ _ hnqm (hc3 _ _ _ hnqm q0)
            have b3 := hc4 _ _ _ hnqm (hc3 _ _ _ hnqm q3)
            have hrD : W4.drew.heap[m]? = _ := hr1
            have hrmD := hrm4.still (Frm.refl _ _).drew
            have hresD := hres4.still (Frm.refl _ _).drew
            have b0D : W4.drew.cell? ⟨q, 0, none⟩ = some (.int .i64 p.cls) := b0
            have b3D : W4.drew.cell? ⟨q, 3, none⟩ = some (.string p.txt) := b3
            clear k0 k1 k2 k3 k4 z0 z1 z2 z3 z4 q0 q1 q2 q3 hW3 hW4 hf3 hf4 hc3 hc4 hh3 hh4 hrm2 hrm3 hrm4 hres2 hres4 b0 b3 hr1
            obtain ⟨⟨k0, k1, k2, k3, k4⟩, z0, z1, z2, z3, z4⟩ := row_facts hrD
            generalize hWD : W4.drew = W5 at *
            refine wp_region_held_drew (S := fun w' => w'.cell? ⟨q, 0, none⟩ = some (.int .i64 (p.cls)) ∧ w'.cell? ⟨q, 3, none⟩ = some (.string (p.txt))) (by kernel_rfl) (by rw [hWD]; exact ⟨b0D, b3D⟩) (fun hHeld => ?_)
            rw [hWD]
            rw [hWD] at hHeld
            clear hWD
            refine wpAnyH_take (i := 0) (oi := ⟨some 58, _, _, _, _, _⟩) (v := (.pointer (some ⟨m, 2, none⟩))) rfl (by kernel_rfl) (by kernel_rfl) (by kernel_rfl) (fun _ _ _ h => h) (.inl ⟨by rfl, fun w hw => by dsimp only at hw; go_simp⟩) hHeld ?_
            simp only [Act.put, List.setIfInBounds_toArray, List.set_cons_zero, List.set_cons_succ]
            refine wpAnyH_take (i := 2) (oi := ⟨some 60, _, _, _, _, _⟩) (v := (.pointer (some ⟨q, 3, none⟩))) rfl (by kernel_rfl) (by kernel_rfl) (by kernel_rfl) (fun _ _ _ h => h) (.inl ⟨by rfl, fun w hw => by dsimp only at hw; go_simp⟩) hHeld ?_
            simp only [Act.put, List.setIfInBounds_toArray, List.set_cons_zero, List.set_cons_succ]
            refine wpAnyH_take (i := 3) (oi := ⟨some 61, _, _, _, _, _⟩) (v := (.string (p.txt))) rfl (by kernel_rfl) (by kernel_rfl) (by kernel_rfl) (fun _ _ _ h => h) (.inl ⟨by rfl, fun w hw => by dsimp only at hw; go_simp⟩) hHeld ?_
            simp only [Act.put, List.setIfInBounds_toArray, List.set_cons_zero, List.set_cons_succ]
            refine wpAnyH_ready (rs := [1, 4]) (by kernel_rfl) (by simp) ?_
            refine AllReadyH.cons (o := ⟨some 59, _, _, _, _, _⟩) rfl (fun K hK => ?_) (AllReadyH.cons (o := ⟨some 62, _, _, _, _, _⟩) rfl (fun K hK => ?_) AllReadyH.nil)
            · skip
              go_simp
              refine hK.out _ _ hHeld (fun hHeld => ?_)
              clear hK K
              refine wpAnyH_ready (rs := [4]) (by kernel_rfl) (by simp) ?_
              refine AllReadyH.cons (o := ⟨some 62, _, _, _, _, _⟩) rfl (fun K hK => ?_) AllReadyH.nil
              go_simp
              refine (Hbt.out _).mono ?_
              rintro e V1 ⟨rfl, rfl⟩
              refine hK.out _ _ hHeld (fun hHeld => ?_)
              clear hK K
              refine wpAnyH_take (i := 5) (oi := ⟨some 63, _, _, _, _, _⟩) (v := (.int .i64 (bits .or .i64 (a.cl : Int) (bitsI p.txt.data.toList : Int)))) rfl (by kernel_rfl) (by kernel_rfl) (by kernel_rfl) (fun _ _ _ h => h) (.inl ⟨by rfl, fun w hw => by dsimp only at hw; go_simp⟩) hHeld ?_
              simp only [Act.put, List.setIfInBounds_toArray, List.set_cons_zero, List.set_cons_succ]
              refine wpAnyH_take (i := 6) (oi := ⟨some 64, _, _, _, _, _⟩) (v := (.pointer (some ⟨m, 2, none⟩))) rfl (by kernel_rfl) (by kernel_rfl) (by kernel_rfl) (fun _ _ _ h => h) (.inl ⟨by rfl, fun w hw => by dsimp only at hw; go_simp⟩) hHeld ?_
              simp only [Act.put, List.setIfInBounds_toArray, List.set_cons_zero, List.set_cons_succ]
              refine wpAnyH_ready (rs := [7]) (by kernel_rfl) (by simp) ?_
              refine AllReadyH.cons (o := ⟨none, _, _, _, _, _⟩) rfl (fun K hK => ?_) AllReadyH.nil
              go_simp
              refine hK.out _ _ (by exact ⟨cell_other hnqm hHeld.1, cell_other hnqm hHeld.2⟩) (fun hHeld => ?_)
              clear hK K
              refine wpAnyH_done (by kernel_rfl) ?_ _
              obtain ⟨W6, hW6, hr6, hf6, hc6, hh6⟩ := hrmD.field hrD 2 (.int .i64 (bits .or .i64 a.cl (bitsI p.txt.data.toList)))
              rw [hW6]
              have hrm6 : Res w W6 m := ⟨hf6, hrmD.new, _, _, _, _, _, hr6⟩
              have hres6 := hresD.move hf6 (hh6 _ hngm)
              have b0 := hc6 _ _ _ hnqm b0D
              have b3 := hc6 _ _ _ hnqm b3D
              have hr6 : W6.heap[m]? = some (.cells #[.int .i64 (a.lo + p.txt.size), .int .i64 (a.hi + p.txt.size), .int .i64 (bits .or .i64 a.cl (bitsI p.txt.data.toList)), .string a.bg, .string a.en] 24 (0, 0)) := hr6
              clear hf6 hc6 hh6 hW6 hresD hrmD hrD hHeld k0 k1 k2 k3 k4 z0 z1 z2 z3 z4 w1 w2 b0D b3D
              by_cases hf0 : k = 0
              · skip
                have hf0I : (k : Int) = 0 := by omega
                have hf0B : ((k : Int) == 0) = true := by rw [beq_iff_eq]; exact hf0I
                by_cases hl0 : k = ps.length - 1
                · skip
                  have hl0I : (k : Int) = (ps.length : Int) - 1 := by omega
                  have hl0B : ((k : Int) == (ps.length : Int) - 1) = true := by rw [beq_iff_eq]; exact hl0I
                  have hnx2 : Hid (pkS ps (k + 1) = ⟨a.lo + p.txt.size, a.hi + p.txt.size, bits .or .i64 a.cl (bitsI p.txt.data.toList), p.txt, p.txt⟩) := Lib.hid (by rw [Hnx.out, if_pos hf0, if_pos hl0])
                  obtain ⟨⟨k0, k1, k2, k3, k4⟩, z0, z1, z2, z3, z4⟩ := row_facts hr6
                  clear hf0 hl0 Hnx
                  have Hlt := Lib.hid hlt
                  clear hlt
                  go_upto_region 18 with fail
                  obtain ⟨W7, hW7, hr7, hf7, hc7, hh7⟩ := hrm6.field hr6 3 (.string p.txt)
                  rw [hW7]
                  have hrm7 : Res w W7 m := ⟨hf7, hrm6.new, _, _, _, _, _, hr7⟩
                  have hres7 := hres6.move hf7 (hh7 _ hngm)
                  obtain ⟨W8, hW8, hr8, hf8, hc8, hh8⟩ := hrm7.field hr7 4 (.string p.txt)
                  rw [hW8]
                  have hrm8 : Res w W8 m := ⟨hf8, hrm7.new, _, _, _, _, _, hr8⟩
                  have hres8 := hres7.move hf8 (hh8 _ hngm)
                  have hrow9 : Hid (W8.heap[m]? = some (shRow (pkS ps (k + 1)))) := Lib.hid (by rw [hnx2.out]; exact hr8)
                  have Hres9 := Lib.hid hres8
                  have Hrm9 := Lib.hid hrm8
                  clear k0 k1 k2 k3 k4 z0 z1 z2 z3 z4 hr8 hrm8 hres8
                  have hlt := Hlt.out
                  go_wp2_with fail
                  go_roundw
                  case rel => exact ⟨k + 1, by go_num, hlt, hrow9, Hres9, Hrm9⟩
                  case measure => simp [intOf]; omega
                · skip
                  have hl0I : ¬ (k : Int) = (ps.length : Int) - 1 := by omega
                  have hl0B : ((k : Int) == (ps.length : Int) - 1) = false := by rw [beq_eq_false_iff_ne]; exact hl0I
                  have hnx2 : Hid (pkS ps (k + 1) = ⟨a.lo + p.txt.size, a.hi + p.txt.size, bits .or .i64 a.cl (bitsI p.txt.data.toList), p.txt, a.en⟩) := Lib.hid (by rw [Hnx.out, if_pos hf0, if_neg hl0])
                  obtain ⟨⟨k0, k1, k2, k3, k4⟩, z0, z1, z2, z3, z4⟩ := row_facts hr6
                  clear hf0 hl0 Hnx
                  have Hlt := Lib.hid hlt
                  clear hlt
                  go_upto_region 18 with fail
                  obtain ⟨W7, hW7, hr7, hf7, hc7, hh7⟩ := hrm6.field hr6 3 (.string p.txt)
                  rw [hW7]
                  have hrm7 : Res w W7 m := ⟨hf7, hrm6.new, _, _, _, _, _, hr7⟩
                  have hres7 := hres6.move hf7 (hh7 _ hngm)
                  have hrow9 : Hid (W7.heap[m]? = some (shRow (pkS ps (k + 1)))) := Lib.hid (by rw [hnx2.out]; exact hr7)
                  have Hres9 := Lib.hid hres7
                  have Hrm9 := Lib.hid hrm7
                  clear k0 k1 k2 k3 k4 z0 z1 z2 z3 z4 hr7 hrm7 hres7
                  have hlt := Hlt.out
                  go_wp2_with fail
                  go_roundw
                  case rel => exact ⟨k + 1, by go_num, hlt, hrow9, Hres9, Hrm9⟩
                  case measure => simp [intOf]; omega
              · skip
                have hf0I : ¬ (k : Int) = 0 := by omega
                have hf0B : ((k : Int) == 0) = false := by rw [beq_eq_false_iff_ne]; exact hf0I
                by_cases hl0 : k = ps.length - 1
                · skip
                  have hl0I : (k : Int) = (ps.length : Int) - 1 := by omega
                  have hl0B : ((k : Int) == (ps.length : Int) - 1) = true := by rw [beq_iff_eq]; exact hl0I
                  have hnx2 : Hid (pkS ps (k + 1) = ⟨a.lo + p.txt.size, a.hi + p.txt.size, bits .or .i64 a.cl (bitsI p.txt.data.toList), a.bg, p.txt⟩) := Lib.hid (by rw [Hnx.out, if_neg hf0, if_pos hl0])
                  obtain ⟨⟨k0, k1, k2, k3, k4⟩, z0, z1, z2, z3, z4⟩ := row_facts hr6
                  clear hf0 hl0 Hnx
                  have Hlt := Lib.hid hlt
                  clear hlt
                  go_upto_region 18 with fail
                  obtain ⟨W8, hW8, hr8, hf8, hc8, hh8⟩ := hrm6.field hr6 4 (.string p.txt)
                  rw [hW8]
                  have hrm8 : Res w W8 m := ⟨hf8, hrm6.new, _, _, _, _, _, hr8⟩
                  have hres8 := hres6.move hf8 (hh8 _ hngm)
                  have hrow9 : Hid (W8.heap[m]? = some (shRow (pkS ps (k + 1)))) := Lib.hid (by rw [hnx2.out]; exact hr8)
                  have Hres9 := Lib.hid hres8
                  have Hrm9 := Lib.hid hrm8
                  clear k0 k1 k2 k3 k4 z0 z1 z2 z3 z4 hr8 hrm8 hres8
                  have hlt := Hlt.out
                  go_wp2_with fail
                  go_roundw
                  case rel => exact ⟨k + 1, by go_num, hlt, hrow9, Hres9, Hrm9⟩
                  case measure => simp [intOf]; omega
                · skip
                  have hl0I : ¬ (k : Int) = (ps.length : Int) - 1 := by omega
                  have hl0B : ((k : Int) == (ps.length : Int) - 1) = false := by rw [beq_eq_false_iff_ne]; exact hl0I
                  have hnx2 : Hid (pkS ps (k + 1) = ⟨a.lo + p.txt.size, a.hi + p.txt.size, bits .or .i64 a.cl (bitsI p.txt.data.toList), a.bg, a.en⟩) := Lib.hid (by rw [Hnx.out, if_neg hf0, if_neg hl0])
                  obtain ⟨⟨k0, k1, k2, k3, k4⟩, z0, z1, z2, z3, z4⟩ := row_facts hr6
                  clear hf0 hl0 Hnx
                  have Hlt := Lib.hid hlt
                  clear hlt
                  go_upto_region 18 with fail
                  have hrow9 : Hid (W6.heap[m]? = some (shRow (pkS ps (k + 1)))) := Lib.hid (by rw [hnx2.out]; exact hr6)
                  have Hres9 := Lib.hid hres6
                  have Hrm9 := Lib.hid hrm6
                  clear k0 k1 k2 k3 k4 z0 z1 z2 z3 z4 hr6 hrm6 hres6
                  have hlt := Hlt.out
                  go_wp2_with fail
                  go_roundw
                  case rel => exact ⟨k + 1, by go_num, hlt, hrow9, Hres9, Hrm9⟩
                  case measure => simp [intOf]; omega
            · skip
              go_simp
              refine (Hbt.out _).mono ?_
              rintro e V1 ⟨rfl, rfl⟩
              refine hK.out _ _ hHeld (fun hHeld => ?_)
              clear hK K
              refine wpAnyH_ready (rs := [1]) (by kernel_rfl) (by simp) ?_
              refine AllReadyH.cons (o := ⟨some 59, _, _, _, _, _⟩) rfl (fun K hK => ?_) AllReadyH.nil
              go_simp
              refine hK.out _ _ hHeld (fun hHeld => ?_)
              clear hK K
              refine wpAnyH_take (i := 5) (oi := ⟨some 63, _, _, _, _, _⟩) (v := (.int .i64 (bits .or .i64 (a.cl : Int) (bitsI p.txt.data.toList : Int)))) rfl (by kernel_rfl) (by kernel_rfl) (by kernel_rfl) (fun _ _ _ h => h) (.inl ⟨by rfl, fun w hw => by dsimp only at hw; go_simp⟩) hHeld ?_
              simp only [Act.put, List.setIfInBounds_toArray, List.set_cons_zero, List.set_cons_succ]
              refine wpAnyH_take (i := 6) (oi := ⟨some 64, _, _, _, _, _⟩) (v := (.pointer (some ⟨m, 2, none⟩))) rfl (by kernel_rfl) (by kernel_rfl) (by kernel_rfl) (fun _ _ _ h => h) (.inl ⟨by rfl, fun w hw => by dsimp only at hw; go_simp⟩) hHeld ?_
              simp only [Act.put, List.setIfInBounds_toArray, List.set_cons_zero, List.set_cons_succ]
              refine wpAnyH_ready (rs := [7]) (by kernel_rfl) (by simp) ?_
              refine AllReadyH.cons (o := ⟨none, _, _, _, _, _⟩) rfl (fun K hK => ?_) AllReadyH.nil
              go_simp
              refine hK.out _ _ (by exact ⟨cell_other hnqm hHeld.1, cell_other hnqm hHeld.2⟩) (fun hHeld => ?_)
              clear hK K
              refine wpAnyH_done (by kernel_rfl) ?_ _
              obtain ⟨W6, hW6, hr6, hf6, hc6, hh6⟩ := hrmD.field hrD 2 (.int .i64 (bits .or .i64 a.cl (bitsI p.txt.data.toList)))
              rw [hW6]
              have hrm6 : Res w W6 m := ⟨hf6, hrmD.new, _, _, _, _, _, hr6⟩
              have hres6 := hresD.move hf6 (hh6 _ hngm)
              have b0 := hc6 _ _ _ hnqm b0D
              have b3 := hc6 _ _ _ hnqm b3D
              have hr6 : W6.heap[m]? = some (.cells #[.int .i64 (a.lo + p.txt.size), .int .i64 (a.hi + p.txt.size), .int .i64 (bits .or .i64 a.cl (bitsI p.txt.data.toList)), .string a.bg, .string a.en] 24 (0, 0)) := hr6
              clear hf6 hc6 hh6 hW6 hresD hrmD hrD hHeld k0 k1 k2 k3 k4 z0 z1 z2 z3 z4 w1 w2 b0D b3D
              by_cases hf0 : k = 0
              · skip
                have hf0I : (k : Int) = 0 := by omega
                have hf0B : ((k : Int) == 0) = true := by rw [beq_iff_eq]; exact hf0I
                by_cases hl0 : k = ps.length - 1
                · skip
                  have hl0I : (k : Int) = (ps.length : Int) - 1 := by omega
                  have hl0B : ((k : Int) == (ps.length : Int) - 1) = true := by rw [beq_iff_eq]; exact hl0I
                  have hnx2 : Hid (pkS ps (k + 1) = ⟨a.lo + p.txt.size, a.hi + p.txt.size, bits .or .i64 a.cl (bitsI p.txt.data.toList), p.txt, p.txt⟩) := Lib.hid (by rw [Hnx.out, if_pos hf0, if_pos hl0])
                  obtain ⟨⟨k0, k1, k2, k3, k4⟩, z0, z1, z2, z3, z4⟩ := row_facts hr6
                  clear hf0 hl0 Hnx
                  have Hlt := Lib.hid hlt
                  clear hlt
                  go_upto_region 18 with fail
                  obtain ⟨W7, hW7, hr7, hf7, hc7, hh7⟩ := hrm6.field hr6 3 (.string p.txt)
                  rw [hW7]
                  have hrm7 : Res w W7 m := ⟨hf7, hrm6.new, _, _, _, _, _, hr7⟩
                  have hres7 := hres6.move hf7 (hh7 _ hngm)
                  obtain ⟨W8, hW8, hr8, hf8, hc8, hh8⟩ := hrm7.field hr7 4 (.string p.txt)
                  rw [hW8]
                  have hrm8 : Res w W8 m := ⟨hf8, hrm7.new, _, _, _, _, _, hr8⟩
                  have hres8 := hres7.move hf8 (hh8 _ hngm)
                  have hrow9 : Hid (W8.heap[m]? = some (shRow (pkS ps (k + 1)))) := Lib.hid (by rw [hnx2.out]; exact hr8)
                  have Hres9 := Lib.hid hres8
                  have Hrm9 := Lib.hid hrm8
                  clear k0 k1 k2 k3 k4 z0 z1 z2 z3 z4 hr8 hrm8 hres8
                  have hlt := Hlt.out
                  go_wp2_with fail
                  go_roundw
                  case rel => exact ⟨k + 1, by go_num, hlt, hrow9, Hres9, Hrm9⟩
                  case measure => simp [intOf]; omega
                · skip
                  have hl0I : ¬ (k : Int) = (ps.length : Int) - 1 := by omega
                  have hl0B : ((k : Int) == (ps.length : Int) - 1) = false := by rw [beq_eq_false_iff_ne]; exact hl0I
                  have hnx2 : Hid (pkS ps (k + 1) = ⟨a.lo + p.txt.size, a.hi + p.txt.size, bits .or .i64 a.cl (bitsI p.txt.data.toList), p.txt, a.en⟩) := Lib.hid (by rw [Hnx.out, if_pos hf0, if_neg hl0])
                  obtain ⟨⟨k0, k1, k2, k3, k4⟩, z0, z1, z2, z3, z4⟩ := row_facts hr6
                  clear hf0 hl0 Hnx
                  have Hlt := Lib.hid hlt
                  clear hlt
                  go_upto_region 18 with fail
                  obtain ⟨W7, hW7, hr7, hf7, hc7, hh7⟩ := hrm6.field hr6 3 (.string p.txt)
                  rw [hW7]
                  have hrm7 : Res w W7 m := ⟨hf7, hrm6.new, _, _, _, _, _, hr7⟩
                  have hres7 := hres6.move hf7 (hh7 _ hngm)
                  have hrow9 : Hid (W7.heap[m]? = some (shRow (pkS ps (k + 1)))) := Lib.hid (by rw [hnx2.out]; exact hr7)
                  have Hres9 := Lib.hid hres7
                  have Hrm9 := Lib.hid hrm7
                  clear k0 k1 k2 k3 k4 z0 z1 z2 z3 z4 hr7 hrm7 hres7
                  have hlt := Hlt.out
                  go_wp2_with fail
                  go_roundw
                  case rel => exact ⟨k + 1, by go_num, hlt, hrow9, Hres9, Hrm9⟩
                  case measure => simp [intOf]; omega
              · skip
                have hf0I : ¬ (k : Int) = 0 := by omega
                have hf0B : ((k : Int) == 0) = false := by rw [beq_eq_false_iff_ne]; exact hf0I
                by_cases hl0 : k = ps.length - 1
                · skip
                  have hl0I : (k : Int) = (ps.length : Int) - 1 := by omega
                  have hl0B : ((k : Int) == (ps.length : Int) - 1) = true := by rw [beq_iff_eq]; exact hl0I
                  have hnx2 : Hid (pkS ps (k + 1) = ⟨a.lo + p.txt.size, a.hi + p.txt.size, bits .or .i64 a.cl (bitsI p.txt.data.toList), a.bg, p.txt⟩) := Lib.hid (by rw [Hnx.out, if_neg hf0, if_pos hl0])
                  obtain ⟨⟨k0, k1, k2, k3, k4⟩, z0, z1, z2, z3, z4⟩ := row_facts hr6
                  clear hf0 hl0 Hnx
                  have Hlt := Lib.hid hlt
                  clear hlt
                  go_upto_region 18 with fail
                  obtain ⟨W8, hW8, hr8, hf8, hc8, hh8⟩ := hrm6.field hr6 4 (.string p.txt)
                  rw [hW8]
                  have hrm8 : Res w W8 m := ⟨hf8, hrm6.new, _, _, _, _, _, hr8⟩
                  have hres8 := hres6.move hf8 (hh8 _ hngm)
                  have hrow9 : Hid (W8.heap[m]? = some (shRow (pkS ps (k + 1)))) := Lib.hid (by rw [hnx2.out]; exact hr8)
                  have Hres9 := Lib.hid hres8
                  have Hrm9 := Lib.hid hrm8
                  clear k0 k1 k2 k3 k4 z0 z1 z2 z3 z4 hr8 hrm8 hres8
                  have hlt := Hlt.out
                  go_wp2_with fail
                  go_roundw
                  case rel => exact ⟨k + 1, by go_num, hlt, hrow9, Hres9, Hrm9⟩
                  case measure => simp [intOf]; omega
                · skip
                  have hl0I : ¬ (k : Int) = (ps.length : Int) - 1 := by omega
                  have hl0B : ((k : Int) == (ps.length : Int) - 1) = false := by rw [beq_eq_false_iff_ne]; exact hl0I
                  have hnx2 : Hid (pkS ps (k + 1) = ⟨a.lo + p.txt.size, a.hi + p.txt.size, bits .or .i64 a.cl (bitsI p.txt.data.toList), a.bg, a.en⟩) := Lib.hid (by rw [Hnx.out, if_neg hf0, if_neg hl0])
                  obtain ⟨⟨k0, k1, k2, k3, k4⟩, z0, z1, z2, z3, z4⟩ := row_facts hr6
                  clear hf0 hl0 Hnx
                  have Hlt := Lib.hid hlt
                  clear hlt
                  go_upto_region 18 with fail
                  have hrow9 : Hid (W6.heap[m]? = some (shRow (pkS ps (k + 1)))) := Lib.hid (by rw [hnx2.out]; exact hr6)
                  have Hres9 := Lib.hid hres6
                  have Hrm9 := Lib.hid hrm6
                  clear k0 k1 k2 k3 k4 z0 z1 z2 z3 z4 hr6 hrm6 hres6
                  have hlt := Hlt.out
                  go_wp2_with fail
                  go_roundw
                  case rel => exact ⟨k + 1, by go_num, hlt, hrow9, Hres9, Hrm9⟩
                  case measure => simp [intOf]; omega
          · have hnx := Hrun.out hc
            have hcne : (p.cls == 0) = false := by rw [beq_eq_false_iff_ne]; exact hc
            unfold pieceB at hpp
            rw [if_neg hc] at hpp
            simp only [Bool.and_eq_true, decide_eq_true_eq] at hpp
            have w1 : IntKind.i64.wrap (a.lo + p.lo) = a.lo + p.lo := IntWalk.i64_in _ (by omega)
            have w2 : IntKind.i64.wrap (a.hi + p.hi) = a.hi + p.hi := IntWalk.i64_in _ (by omega)
            have hbt := clb_any p.cls (by omega) (by omega)
            have Hbt := Lib.hid hbt
            have Hnx := Lib.hid hnx
            clear Hrun Hlit hnx hbt hpp
            go_upto_region 10 with fail
            obtain ⟨W3, hW3, hr1, hf3, hc3, hh3⟩ := hrm2.field hr1 0 (.int .i64 (a.lo + p.lo))
            rw [hW3]
            have hrm3 : Res w W3 m := ⟨hf3, hrm2.new, _, _, _, _, _, hr1⟩
            obtain ⟨W4, hW4, hr1, hf4, hc4, hh4⟩ := hrm3.field hr1 1 (.int .i64 (a.hi + p.hi))
            rw [hW4]
            have hr1 : W4.heap[m]? = some (.cells #[.int .i64 (a.lo + p.lo), .int .i64 (a.hi + p.hi), .int .i64 a.cl, .string a.bg, .string a.en] 24 (0, 0)) := hr1
            have hrm4 : Res w W4 m := ⟨hf4, hrm2.new, _, _, _, _, _, hr1⟩
            have hres4 := (hres2.move hf3 (hh3 _ hngm)).move hf4 (hh4 _ hngm)
            have b0 := hc4 _ _ _ hnqm (hc3 _ _ _ hnqm q0)
            have b3 := hc4 _ _ _ hnqm (hc3 _ _ _ hnqm q3)
            have hrD : W4.drew.heap[m]? = _ := hr1
            have hrmD := hrm4.still (Frm.refl _ _).drew
            have hresD := hres4.still (Frm.refl _ _).drew
            have b0D : W4.drew.cell? ⟨q, 0, none⟩ = some (.int .i64 p.cls) := b0
            have b3D : W4.drew.cell? ⟨q, 3, none⟩ = some (.string p.txt) := b3
            clear k0 k1 k2 k3 k4 z0 z1 z2 z3 z4 q0 q1 q2 q3 hW3 hW4 hf3 hf4 hc3 hc4 hh3 hh4 hrm2 hrm3 hrm4 hres2 hres4 b0 b3 hr1
            obtain ⟨⟨k0, k1, k2, k3, k4⟩, z0, z1, z2, z3, z4⟩ := row_facts hrD
            generalize hWD : W4.drew = W5 at *
            refine wp_region_held_drew (S := fun w' => w'.cell? ⟨q, 0, none⟩ = some (.int .i64 (p.cls)) ∧ w'.cell? ⟨q, 3, none⟩ = some (.string (p.txt))) (by kernel_rfl) (by rw [hWD]; exact ⟨b0D, b3D⟩) (fun hHeld => ?_)
            rw [hWD]
            rw [hWD] at hHeld
            clear hWD
            refine wpAnyH_take (i := 0) (oi := ⟨some 37, _, _, _, _, _⟩) (v := (.pointer (some ⟨m, 2, none⟩))) rfl (by kernel_rfl) (by kernel_rfl) (by kernel_rfl) (fun _ _ _ h => h) (.inl ⟨by rfl, fun w hw => by dsimp only at hw; go_simp⟩) hHeld ?_
            simp only [Act.put, List.setIfInBounds_toArray, List.set_cons_zero, List.set_cons_succ]
            refine wpAnyH_take (i := 2) (oi := ⟨some 39, _, _, _, _, _⟩) (v := (.pointer (some ⟨q, 0, none⟩))) rfl (by kernel_rfl) (by kernel_rfl) (by kernel_rfl) (fun _ _ _ h => h) (.inl ⟨by rfl, fun w hw => by dsimp only at hw; go_simp⟩) hHeld ?_
            simp only [Act.put, List.setIfInBounds_toArray, List.set_cons_zero, List.set_cons_succ]
            refine wpAnyH_take (i := 3) (oi := ⟨some 40, _, _, _, _, _⟩) (v := (.int .i64 (p.cls))) rfl (by kernel_rfl) (by kernel_rfl) (by kernel_rfl) (fun _ _ _ h => h) (.inl ⟨by rfl, fun w hw => by dsimp only at hw; go_simp⟩) hHeld ?_
            simp only [Act.put, List.setIfInBounds_toArray, List.set_cons_zero, List.set_cons_succ]
            refine wpAnyH_ready (rs := [1, 4]) (by kernel_rfl) (by simp) ?_
            refine AllReadyH.cons (o := ⟨some 38, _, _, _, _, _⟩) rfl (fun K hK => ?_) (AllReadyH.cons (o := ⟨some 41, _, _, _, _, _⟩) rfl (fun K hK => ?_) AllReadyH.nil)
            · skip
              go_simp
              refine hK.out _ _ hHeld (fun hHeld => ?_)
              clear hK K
              refine wpAnyH_ready (rs := [4]) (by kernel_rfl) (by simp) ?_
              refine AllReadyH.cons (o := ⟨some 41, _, _, _, _, _⟩) rfl (fun K hK => ?_) AllReadyH.nil
              go_simp
              refine (Hbt.out _).mono ?_
              rintro e V1 ⟨rfl, rfl⟩
              refine hK.out _ _ hHeld (fun hHeld => ?_)
              clear hK K
              refine wpAnyH_take (i := 5) (oi := ⟨some 42, _, _, _, _, _⟩) (v := (.int .i64 (bits .or .i64 (a.cl : Int) (cbI p.cls : Int)))) rfl (by kernel_rfl) (by kernel_rfl) (by kernel_rfl) (fun _ _ _ h => h) (.inl ⟨by rfl, fun w hw => by dsimp only at hw; go_simp⟩) hHeld ?_
              simp only [Act.put, List.setIfInBounds_toArray, List.set_cons_zero, List.set_cons_succ]
              refine wpAnyH_take (i := 6) (oi := ⟨some 43, _, _, _, _, _⟩) (v := (.pointer (some ⟨m, 2, none⟩))) rfl (by kernel_rfl) (by kernel_rfl) (by kernel_rfl) (fun _ _ _ h => h) (.inl ⟨by rfl, fun w hw => by dsimp only at hw; go_simp⟩) hHeld ?_
              simp only [Act.put, List.setIfInBounds_toArray, List.set_cons_zero, List.set_cons_succ]
              refine wpAnyH_ready (rs := [7]) (by kernel_rfl) (by simp) ?_
              refine AllReadyH.cons (o := ⟨none, _, _, _, _, _⟩) rfl (fun K hK => ?_) AllReadyH.nil
              go_simp
              refine hK.out _ _ (by exact ⟨cell_other hnqm hHeld.1, cell_other hnqm hHeld.2⟩) (fun hHeld => ?_)
              clear hK K
              refine wpAnyH_done (by kernel_rfl) ?_ _
              obtain ⟨W6, hW6, hr6, hf6, hc6, hh6⟩ := hrmD.field hrD 2 (.int .i64 (bits .or .i64 a.cl (cbI p.cls)))
              rw [hW6]
              have hrm6 : Res w W6 m := ⟨hf6, hrmD.new, _, _, _, _, _, hr6⟩
              have hres6 := hresD.move hf6 (hh6 _ hngm)
              have hrow6 : Hid (W6.heap[m]? = some (shRow (pkS ps (k + 1)))) := Lib.hid (by rw [Hnx.out]; exact hr6)
              have Hres6 := Lib.hid hres6
              have Hrm6 := Lib.hid hrm6
              clear hr6 hf6 hc6 hh6 hW6 hres6 hrm6 hresD hrmD hrD hHeld k0 k1 k2 k3 k4 z0 z1 z2 z3 z4
              go_wp2_with fail
              go_roundw
              case rel => exact ⟨k + 1, by go_num, hlt, hrow6, Hres6, Hrm6⟩
              case measure => simp [intOf]; omega
            · skip
              go_simp
              refine (Hbt.out _).mono ?_
              rintro e V1 ⟨rfl, rfl⟩
              refine hK.out _ _ hHeld (fun hHeld => ?_)
              clear hK K
              refine wpAnyH_ready (rs := [1]) (by kernel_rfl) (by simp) ?_
              refine AllReadyH.cons (o := ⟨some 38, _, _, _, _, _⟩) rfl (fun K hK => ?_) AllReadyH.nil
              go_simp
              refine hK.out _ _ hHeld (fun hHeld => ?_)
              clear hK K
              refine wpAnyH_take (i := 5) (oi := ⟨some 42, _, _, _, _, _⟩) (v := (.int .i64 (bits .or .i64 (a.cl : Int) (cbI p.cls : Int)))) rfl (by kernel_rfl) (by kernel_rfl) (by kernel_rfl) (fun _ _ _ h => h) (.inl ⟨by rfl, fun w hw => by dsimp only at hw; go_simp⟩) hHeld ?_
              simp only [Act.put, List.setIfInBounds_toArray, List.set_cons_zero, List.set_cons_succ]
              refine wpAnyH_take (i := 6) (oi := ⟨some 43, _, _, _, _, _⟩) (v := (.pointer (some ⟨m, 2, none⟩))) rfl (by kernel_rfl) (by kernel_rfl) (by kernel_rfl) (fun _ _ _ h => h) (.inl ⟨by rfl, fun w hw => by dsimp only at hw; go_simp⟩) hHeld ?_
              simp only [Act.put, List.setIfInBounds_toArray, List.set_cons_zero, List.set_cons_succ]
              refine wpAnyH_ready (rs := [7]) (by kernel_rfl) (by simp) ?_
              refine AllReadyH.cons (o := ⟨none, _, _, _, _, _⟩) rfl (fun K hK => ?_) AllReadyH.nil
              go_simp
              refine hK.out _ _ (by exact ⟨cell_other hnqm hHeld.1, cell_other hnqm hHeld.2⟩) (fun hHeld => ?_)
              clear hK K
              refine wpAnyH_done (by kernel_rfl) ?_ _
              obtain ⟨W6, hW6, hr6, hf6, hc6, hh6⟩ := hrmD.field hrD 2 (.int .i64 (bits .or .i64 a.cl (cbI p.cls)))
              rw [hW6]
              have hrm6 : Res w W6 m := ⟨hf6, hrmD.new, _, _, _, _, _, hr6⟩
              have hres6 := hresD.move hf6 (hh6 _ hngm)
              have hrow6 : Hid (W6.heap[m]? = some (shRow (pkS ps (k + 1)))) := Lib.hid (by rw [Hnx.out]; exact hr6)
              have Hres6 := Lib.hid hres6
              have Hrm6 := Lib.hid hrm6
              clear hr6 hf6 hc6 hh6 hW6 hres6 hrm6 hresD hrmD hrD hHeld k0 k1 k2 k3 k4 z0 z1 z2 z3 z4
              go_wp2_with fail
              go_roundw
              case rel => exact ⟨k + 1, by go_num, hlt, hrow6, Hres6, Hrm6⟩
              case measure => simp [intOf]; omega
        · obtain rfl : k = ps.length := by omega
          have hend : ¬ (ps.length : Int) < (ps.length : Int) := by omega
          have hr1 := hrow.out
          have hE := HE.out
          have e1 : sumL leastP (ps.take ps.length) = (pkS ps ps.length).lo := rfl
          have e2 : sumL mostP (ps.take ps.length) = (pkS ps ps.length).hi := rfl
          rw [e1, e2] at hs4
          unfold shRow at hr1
          generalize pkS ps ps.length = a at *
          have HE2 := Lib.hid hE
          have hres2 := hres.out
          have hrm2 := hrm.out
          obtain ⟨⟨k0, k1, k2, k3, k4⟩, z0, z1, z2, z3, z4⟩ := row_facts hr1
          clear hE HE hrow hres hrm hlt
          by_cases h200 : 200 < a.lo
          · have hR : Hid (patS ps = none') := Lib.hid (by rw [HE2.out, if_pos h200])
            clear HE2
            go_wp2_with fail
            refine (Hnone.out _).mono ?_
            rintro e W2 ⟨rfl, f2⟩
            have hres := hres2.still f2
            clear k0 k1 k2 k3 k4 z0 z1 z2 z3 z4
            obtain ⟨u0, u1, u2, u3, u4, ⟨c0, c1, c2, c3, c4⟩, z0, z1, z2, z3, z4⟩ := hres.facts
            have Hr := Lib.hid hres
            clear hres f2 hres2 hrm2
            go_wp2_with fail
            exact Hr.out.ret Tryz.results20 rfl rfl fun W f => ⟨by rw [hR.out]; rfl, f⟩
          · have hR : Hid (patS ps = ⟨a.lo, min a.hi 200, a.cl, a.bg, a.en⟩) := Lib.hid (by rw [HE2.out, if_neg h200])
            clear HE2
            go_upto_region 22 with fail
            obtain ⟨W3, hW3, hr1, hf3, hc3, hh3⟩ := hrm2.field hr1 1 (.int .i64 (min a.hi 200))
            rw [hW3]
            have hr1 : W3.heap[m]? = some (.cells #[.int .i64 a.lo, .int .i64 (min a.hi 200), .int .i64 a.cl, .string a.bg, .string a.en] 24 (0, 0)) := hr1
            have hres3 := hres2.move hf3 (hh3 _ hngm)
            clear k0 k1 k2 k3 k4 z0 z1 z2 z3 z4 hW3 hf3 hc3 hh3 hrm2 hres2
            obtain ⟨⟨k0, k1, k2, k3, k4⟩, -⟩ := row_facts hr1
            obtain ⟨u0, u1, u2, u3, u4, ⟨c0, c1, c2, c3, c4⟩, z0, z1, z2, z3, z4⟩ := hres3.facts
            have Hr := Lib.hid hres3
            clear hres3 hr1
            go_wp2_with fail
            exact Hr.out.ret Tryz.results20 rfl rfl fun W f => ⟨by rw [hR.out]; rfl, f⟩
end Go.Proofs.YtgnjakaamgeibaaGreatDoor
