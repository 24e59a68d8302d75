/-
  The reference's Pattern: what the code does. Conditions: the pieces lie in memory, few and short.
-/
import Derived.Test.YtgnjakaamgeibaaDoorShK
import Derived.Test.YtgnjakaamgeibaaDoorRRgt
namespace Go.Proofs.YtgnjakaamgeibaaDoor
open Go.RowKit Go.Shelf
attribute [local go_sem] Oper.semAt_some

/-- What the reference's rounds over the pieces have made of a shape. -/
def qkS (ps : List Pc) (k : Nat) : Shp := ⟨sumL leastP (ps.take k), sumL mostP (ps.take k), clL (ps.take k), ⟨#[]⟩, ⟨#[]⟩⟩
theorem qk_run {ps : List Pc} {k : Nat} (h : k < ps.length) (hc : ps[k].cls ≠ 0) : qkS ps (k + 1) = ⟨(qkS ps k).lo + ps[k].lo, (qkS ps k).hi + ps[k].hi, bits .or .i64 (qkS ps k).cl (cbI ps[k].cls), ⟨#[]⟩, ⟨#[]⟩⟩ := by
  obtain ⟨e1, e2, e3⟩ := pk_succ h
  unfold qkS
  rw [e1, e2, e3]
  have l1 : leastP ps[k] = ps[k].lo := by unfold leastP; rw [if_neg hc]
  have l2 : mostP ps[k] = ps[k].hi := by unfold mostP; rw [if_neg hc]
  have l3 : clP ps[k] = cbI ps[k].cls := by unfold clP; rw [if_neg hc]
  rw [l1, l2, l3]
theorem qk_lit {ps : List Pc} {k : Nat} (h : k < ps.length) (hc : ps[k].cls = 0) : qkS ps (k + 1) = ⟨(qkS ps k).lo + ps[k].txt.size, (qkS ps k).hi + ps[k].txt.size, bits .or .i64 (qkS ps k).cl (bitsI ps[k].txt.data.toList), ⟨#[]⟩, ⟨#[]⟩⟩ := by
  obtain ⟨e1, e2, e3⟩ := pk_succ h
  unfold qkS
  rw [e1, e2, e3]
  have l1 : leastP ps[k] = ps[k].txt.size := by unfold leastP Pc.t; rw [if_pos hc, size_list]
  have l2 : mostP ps[k] = ps[k].txt.size := by unfold mostP Pc.t; rw [if_pos hc, size_list]
  have l3 : clP ps[k] = bitsI ps[k].txt.data.toList := by unfold clP; rw [if_pos hc]
  rw [l1, l2, l3]
theorem lit_txt {p : Pc} (h : pieceB p = true) : litT (some p) = p.txt := by
  unfold litT
  simp only
  by_cases hc : p.cls = 0
  · rw [if_pos hc]
  · rw [if_neg hc]
    unfold pieceB at h
    rw [if_neg hc] at h
    simp only [Bool.and_eq_true, decide_eq_true_eq] at h
    have he : p.txt.data.toList = [] := by have := h.1.1.1.1.2; unfold Pc.t at this; simpa using this
    have : p.txt = ⟨#[]⟩ := by
      have hx : p.txt.data = #[] := by rw [← Array.toArray_toList (xs := p.txt.data), he]
      cases hp : p.txt with
      | mk dd => rw [hp] at hx; simp only at hx; rw [hx]
    rw [this]
theorem qk_end {ps : List Pc} (h : rightB ps = true) : patS ps = if 200 < (qkS ps ps.length).lo then none' else ⟨(qkS ps ps.length).lo, min (qkS ps ps.length).hi 200, (qkS ps ps.length).cl, litT ps.head?, litT ps.getLast?⟩ := by
  unfold patS qkS
  rw [h, if_neg (by simp), List.take_length]
theorem cb_row (c : Nat) (h1 : 1 ≤ c) (h7 : c ≤ 7) : (#[.int .i64 0, .int .i64 2, .int .i64 4, .int .i64 8, .int .i64 12, .int .i64 32, .int .i64 64, .int .i64 110] : Array Value)[c]? = some (.int .i64 (cbI (c : Int))) := by
  have hk : c = 1 ∨ c = 2 ∨ c = 3 ∨ c = 4 ∨ c = 5 ∨ c = 6 ∨ c = 7 := by omega
  rcases hk with rfl | rfl | rfl | rfl | rfl | rfl | rfl <;> rfl

/-- The pieces do not lie in a block made behind. -/
theorem gp_ne {w wr : World} {gp m n cap : Nat} {ps : List Pc} {k : Nat} (hP : Pcs w (.slice (some ⟨gp, 0, none⟩) n cap) ps) (hm : Res w wr m) (hk : k < ps.length) (e : gp = m) : False := by
  obtain ⟨g, cap', hv, -, hlt⟩ := hP.cell k hk
  injection hv with e1 e2 e3
  injection e1 with e1
  injection e1 with e1
  have := hm.new
  omega

set_option maxRecDepth 100000 in
set_option maxHeartbeats 8000000 in
theorem rpat_any {v : Value} {ps : List Pc} (w : World) (hP : Pcs w v ps) (hsm : Small ps) (hn : ps.length ≤ 1000) :
    Calls Tryd.prog 49 #[v] w fun e w' => e = .returned (shV (patS ps)) ∧ Frm (fun _ => False) w w' := by
  have hpr := fun (W : World) (f : Frm (fun _ => False) w W) => rright_any W (hP.still f) hsm hn
  have hnone := rnone_any
  unfold shV none' at hnone
  simp only at hnone
  have Hnone := Lib.hid hnone
  have HP := Lib.hid hP
  obtain ⟨ao, cap, rfl⟩ := hP.form
  have hr0 := Res.start w w (Frm.refl _ _)
  obtain ⟨W0, hW0⟩ : ∃ W, W = w.alloc (.cells #[.int .i64 0, .int .i64 0, .int .i64 0, .string ⟨#[]⟩, .string ⟨#[]⟩] 24) := ⟨_, rfl⟩
  obtain ⟨g, hg⟩ : ∃ g, g = w.heap.size := ⟨_, rfl⟩
  rw [← hW0, ← hg] at hr0
  go_enter Tryd.func49, Tryd.ntmps49
  go_upto_region 1 with fail
  rw [← hW0, ← hg]
  clear hW0 hg hnone hP
  have Hr0 := Lib.hid hr0
  clear hr0
  cases hr : rightB ps
  · have hR : patS ps = none' := by unfold patS; rw [hr]; rfl
    rw [hr] at hpr
    have Hpr := Lib.hid hpr
    have HR := Lib.hid hR
    clear hR hr hpr
    go_wp2_with fail
    refine (Hpr.out _ Hr0.out.frm).mono ?_
    rintro e W1 ⟨rfl, f1⟩
    have hres := Hr0.out.still f1
    clear f1
    go_wp2_with fail
    refine (Hnone.out _).mono ?_
    rintro e W2 ⟨rfl, f2⟩
    have hres := hres.still f2
    obtain ⟨u0, u1, u2, u3, u4, ⟨c0, c1, c2, c3, c4⟩, z0, z1, z2, z3, z4⟩ := hres.facts
    have Hr := Lib.hid hres
    clear hres f2
    go_wp2_with fail
    exact Hr.out.ret Tryd.results49 rfl rfl fun W f => ⟨by rw [HR.out]; rfl, f⟩
  · rw [hr] at hpr
    have Hpr := Lib.hid hpr
    have hmem := right_mem hr
    have hE := qk_end hr
    have hsum := right_sum hmem hsm
    have HE := Lib.hid hE
    have Hsum := Lib.hid hsum
    have Hmem := Lib.hid hmem
    have Hsm := Lib.hid hsm
    clear hE hsum hmem hsm hr hpr
    go_wp2_with fail
    refine (Hpr.out _ Hr0.out.frm).mono ?_
    rintro e wc ⟨rfl, f1⟩
    have hres := Hr0.out.still f1
    clear f1 Hpr Hr0
    have hrm := Res.start w _ hres.frm
    have hrow := heap_alloc_new wc (.cells #[.int .i64 0, .int .i64 0, .int .i64 0, .string ⟨#[]⟩, .string ⟨#[]⟩] 24)
    have hfa := (Frm.refl (fun _ => False) wc).alloc (.cells #[.int .i64 0, .int .i64 0, .int .i64 0, .string ⟨#[]⟩, .string ⟨#[]⟩] 24)
    have hngm : g ≠ wc.heap.size := fun e => by have := hres.lt; omega
    have hres := hres.still hfa
    go_upto_region 4 with fail
    obtain ⟨W1, hW1⟩ : ∃ W, W = wc.alloc (.cells #[.int .i64 0, .int .i64 0, .int .i64 0, .string ⟨#[]⟩, .string ⟨#[]⟩] 24) := ⟨_, rfl⟩
    obtain ⟨m, hm⟩ : ∃ m, m = wc.heap.size := ⟨_, rfl⟩
    rw [← hW1, ← hm] at hrm hrow
    rw [← hm] at hngm
    rw [← hW1] at hres
    rw [← hW1, ← hm]
    clear hW1 hm hfa
    have hk0 : qkS ps 0 = ⟨0, 0, 0, ⟨#[]⟩, ⟨#[]⟩⟩ := rfl
    have hrow : Hid (W1.heap[m]? = some (shRow (qkS ps 0))) := Lib.hid (by rw [hk0]; exact hrow)
    have Hres := Lib.hid hres
    have Hrm := Lib.hid hrm
    clear hk0 hres hrm
    go_wp2_with fail
    go_loopw [4] (fun s wr => ∃ k : Nat, s = .int .i64 k ∧ k ≤ ps.length ∧ Hid (wr.heap[m]? = some (shRow (qkS ps k))) ∧ Hid (Res w wr g) ∧ Hid (Res w wr m)) (fun s _ => ps.length - (intOf s).toNat)
    case atStart => exact ⟨0, rfl, Nat.zero_le _, hrow, Hres, Hrm⟩
    case round =>
      clear hrow Hres Hrm
      obtain ⟨k, rfl, hk, hrow, hres, hrm⟩ := hrel
      have hs4 := Hsum.out k
      by_cases hlt : k < ps.length
      · have hltI : (k : Int) < (ps.length : Int) := by omega
        obtain ⟨gp, hao, ⟨c0, c1, c2, c3⟩, -⟩ := (HP.out.still hres.out.frm).at' k hlt
        subst hao
        have hpp := Hmem.out _ (List.getElem_mem hlt)
        have hps := Hsm.out _ (List.getElem_mem hlt)
        have hrun := qk_run hlt
        have hlit := qk_lit hlt
        have e1 : sumL leastP (ps.take k) = (qkS ps k).lo := rfl
        have e2 : sumL mostP (ps.take k) = (qkS ps k).hi := rfl
        have e3 : clL (ps.take k) = (qkS ps k).cl := rfl
        rw [e1, e2] at hs4
        have hr1 := hrow.out
        have hq : qkS ps k = ⟨(qkS ps k).lo, (qkS ps k).hi, (qkS ps k).cl, ⟨#[]⟩, ⟨#[]⟩⟩ := rfl
        rw [hq] at hr1
        unfold shRow at hr1
        simp only at hr1
        generalize ps[k] = p at *
        generalize (qkS ps k).lo = al at *
        generalize (qkS ps k).hi = ah at *
        generalize (qkS ps k).cl = ac at *
        have Hrun := Lib.hid hrun
        have Hlit := Lib.hid hlit
        have hngpm : gp ≠ m := fun e => gp_ne HP.out hrm.out hlt e
        have hres := hres.out
        have hrm := hrm.out
        clear hrun hlit e1 e2 e3 hrow hq
        by_cases hc : p.cls = 0
        · have hnx := Hlit.out hc
          have w1 : IntKind.i64.wrap (al + p.txt.size) = al + p.txt.size := IntWalk.i64_in _ (by omega)
          have w2 : IntKind.i64.wrap (ah + p.txt.size) = ah + p.txt.size := IntWalk.i64_in _ (by omega)
          have hbt := rbits_any p.txt (by omega)
          have Hbt := Lib.hid hbt
          have Hnx := Lib.hid hnx
          clear Hrun Hlit hnx hbt hpp
          go_upto_region 8 with fail
          obtain ⟨WD, hWD⟩ : ∃ W, wr.drew = W := ⟨_, rfl⟩
          have fd : Frm (fun _ => False) wr WD := by rw [← hWD]; exact (Frm.refl _ _).drew
          have hr := fd.heap hr1 (fun h => h)
          have hrm := hrm.still fd
          have hres := hres.still fd
          have c0 := fd.cell c0 (fun h => h)
          have c1 := fd.cell c1 (fun h => h)
          have c2 := fd.cell c2 (fun h => h)
          have c3 := fd.cell c3 (fun h => h)
          obtain ⟨⟨k0, k1, k2, k3, k4⟩, z0, z1, z2, z3, z4⟩ := row_facts hr
          refine wp_region_held_drew (S := fun w' => w'.cell? ⟨gp, k * 4 + 3, none⟩ = some (.string (p.txt))) (by kernel_rfl) (by rw [hWD]; exact c3) (fun hHeld => ?_)
          rw [hWD]
          rw [hWD] at hHeld
          clear hWD fd
          refine wpAnyH_take (i := 0) (oi := ⟨some 21, _, _, _, _, _⟩) (v := (.pointer (some ⟨m, 0, none⟩))) rfl (by kernel_rfl) (by kernel_rfl) (by kernel_rfl) (fun _ _ _ h => h) (.inl ⟨by rfl, fun w hw => by dsimp only at hw; go_simp⟩) hHeld ?_
          simp only [Act.put, List.setIfInBounds_toArray, List.set_cons_zero, List.set_cons_succ]
          refine wpAnyH_take (i := 2) (oi := ⟨some 23, _, _, _, _, _⟩) (v := (.slice (some ⟨gp, 0, none⟩) ps.length cap)) rfl (by kernel_rfl) (by kernel_rfl) (by kernel_rfl) (fun _ _ _ h => h) (.inl ⟨by rfl, fun w hw => by dsimp only at hw; go_simp⟩) hHeld ?_
          simp only [Act.put, List.setIfInBounds_toArray, List.set_cons_zero, List.set_cons_succ]
          refine wpAnyH_take (i := 3) (oi := ⟨some 24, _, _, _, _, _⟩) (v := (.int .i64 (k))) rfl (by kernel_rfl) (by kernel_rfl) (by kernel_rfl) (fun _ _ _ h => h) (.inl ⟨by rfl, fun w hw => by dsimp only at hw; go_simp⟩) hHeld ?_
          simp only [Act.put, List.setIfInBounds_toArray, List.set_cons_zero, List.set_cons_succ]
          refine wpAnyH_take (i := 4) (oi := ⟨some 25, _, _, _, _, _⟩) (v := (.pointer (some ⟨gp, k * 4, none⟩))) rfl (by kernel_rfl) (by kernel_rfl) (by kernel_rfl) (fun _ _ _ h => h) (.inl ⟨by rfl, fun w hw => by dsimp only at hw; go_simp⟩) hHeld ?_
          simp only [Act.put, List.setIfInBounds_toArray, List.set_cons_zero, List.set_cons_succ]
          refine wpAnyH_take (i := 5) (oi := ⟨some 26, _, _, _, _, _⟩) (v := (.pointer (some ⟨gp, k * 4 + 3, none⟩))) rfl (by kernel_rfl) (by kernel_rfl) (by kernel_rfl) (fun _ _ _ h => h) (.inl ⟨by rfl, fun w hw => by dsimp only at hw; go_simp⟩) hHeld ?_
          simp only [Act.put, List.setIfInBounds_toArray, List.set_cons_zero, List.set_cons_succ]
          refine wpAnyH_take (i := 6) (oi := ⟨some 27, _, _, _, _, _⟩) (v := (.string (p.txt))) rfl (by kernel_rfl) (by kernel_rfl) (by kernel_rfl) (fun _ _ _ h => h) (.inl ⟨by rfl, fun w hw => by dsimp only at hw; go_simp⟩) hHeld ?_
          simp only [Act.put, List.setIfInBounds_toArray, List.set_cons_zero, List.set_cons_succ]
          refine wpAnyH_take (i := 7) (oi := ⟨some 28, _, _, _, _, _⟩) (v := (.int .i64 (((p.txt).size : Int)))) rfl (by kernel_rfl) (by kernel_rfl) (by kernel_rfl) (fun _ _ _ h => h) (.inl ⟨by rfl, fun w hw => by dsimp only at hw; go_simp⟩) hHeld ?_
          simp only [Act.put, List.setIfInBounds_toArray, List.set_cons_zero, List.set_cons_succ]
          refine wpAnyH_ready (rs := [1]) (by kernel_rfl) (by simp) ?_
          refine AllReadyH.cons (o := ⟨some 22, _, _, _, _, _⟩) rfl (fun K hK => ?_) AllReadyH.nil
          go_simp
          refine hK.out _ _ hHeld (fun hHeld => ?_)
          clear hK K
          refine wpAnyH_take (i := 8) (oi := ⟨some 29, _, _, _, _, _⟩) (v := (.int .i64 ((al : Int) + (((p.txt).size : Int) : Int)))) rfl (by kernel_rfl) (by kernel_rfl) (by kernel_rfl) (fun _ _ _ h => h) (.inl ⟨by rfl, fun w hw => by dsimp only at hw; go_simp⟩) hHeld ?_
          simp only [Act.put, List.setIfInBounds_toArray, List.set_cons_zero, List.set_cons_succ]
          refine wpAnyH_take (i := 9) (oi := ⟨some 30, _, _, _, _, _⟩) (v := (.pointer (some ⟨m, 0, none⟩))) rfl (by kernel_rfl) (by kernel_rfl) (by kernel_rfl) (fun _ _ _ h => h) (.inl ⟨by rfl, fun w hw => by dsimp only at hw; go_simp⟩) hHeld ?_
          simp only [Act.put, List.setIfInBounds_toArray, List.set_cons_zero, List.set_cons_succ]
          refine wpAnyH_ready (rs := [10]) (by kernel_rfl) (by simp) ?_
          refine AllReadyH.cons (o := ⟨none, _, _, _, _, _⟩) rfl (fun K hK => ?_) AllReadyH.nil
          go_simp
          refine hK.out _ _ (cell_other hngpm hHeld) (fun hHeld => ?_)
          clear hK K
          refine wpAnyH_done (by kernel_rfl) ?_ _
          obtain ⟨WN, hWN, hr6, hf6, hc6, hh6⟩ := hrm.field hr 0 (.int .i64 (al + p.txt.size))
          rw [hWN]
          have hr : WN.heap[m]? = some (.cells #[.int .i64 (al + p.txt.size), .int .i64 ah, .int .i64 ac, .string ⟨#[]⟩, .string ⟨#[]⟩] 24 (0, 0)) := hr6
          have hrm : Res w WN m := ⟨hf6, hrm.new, _, _, _, _, _, hr⟩
          have hres := hres.move hf6 (hh6 _ hngm)
          have c0 := hc6 _ _ _ hngpm c0
          have c1 := hc6 _ _ _ hngpm c1
          have c2 := hc6 _ _ _ hngpm c2
          have c3 := hc6 _ _ _ hngpm c3
          clear hr6 hf6 hc6 hh6 hWN hHeld k0 k1 k2 k3 k4 z0 z1 z2 z3 z4
          go_upto_region 9 with fail
          obtain ⟨WD, hWD⟩ : ∃ W, WN.drew = W := ⟨_, rfl⟩
          have fd : Frm (fun _ => False) WN WD := by rw [← hWD]; exact (Frm.refl _ _).drew
          have hr := fd.heap hr (fun h => h)
          have hrm := hrm.still fd
          have hres := hres.still fd
          have c0 := fd.cell c0 (fun h => h)
          have c1 := fd.cell c1 (fun h => h)
          have c2 := fd.cell c2 (fun h => h)
          have c3 := fd.cell c3 (fun h => h)
          obtain ⟨⟨k0, k1, k2, k3, k4⟩, z0, z1, z2, z3, z4⟩ := row_facts hr
          refine wp_region_held_drew (S := fun w' => w'.cell? ⟨gp, k * 4 + 3, none⟩ = some (.string (p.txt))) (by kernel_rfl) (by rw [hWD]; exact c3) (fun hHeld => ?_)
          rw [hWD]
          rw [hWD] at hHeld
          clear hWD fd
          refine wpAnyH_take (i := 0) (oi := ⟨some 31, _, _, _, _, _⟩) (v := (.pointer (some ⟨m, 1, none⟩))) rfl (by kernel_rfl) (by kernel_rfl) (by kernel_rfl) (fun _ _ _ h => h) (.inl ⟨by rfl, fun w hw => by dsimp only at hw; go_simp⟩) hHeld ?_
          simp only [Act.put, List.setIfInBounds_toArray, List.set_cons_zero, List.set_cons_succ]
          refine wpAnyH_take (i := 2) (oi := ⟨some 33, _, _, _, _, _⟩) (v := (.slice (some ⟨gp, 0, none⟩) ps.length cap)) rfl (by kernel_rfl) (by kernel_rfl) (by kernel_rfl) (fun _ _ _ h => h) (.inl ⟨by rfl, fun w hw => by dsimp only at hw; go_simp⟩) hHeld ?_
          simp only [Act.put, List.setIfInBounds_toArray, List.set_cons_zero, List.set_cons_succ]
          refine wpAnyH_take (i := 3) (oi := ⟨some 34, _, _, _, _, _⟩) (v := (.int .i64 (k))) rfl (by kernel_rfl) (by kernel_rfl) (by kernel_rfl) (fun _ _ _ h => h) (.inl ⟨by rfl, fun w hw => by dsimp only at hw; go_simp⟩) hHeld ?_
          simp only [Act.put, List.setIfInBounds_toArray, List.set_cons_zero, List.set_cons_succ]
          refine wpAnyH_take (i := 4) (oi := ⟨some 35, _, _, _, _, _⟩) (v := (.pointer (some ⟨gp, k * 4, none⟩))) rfl (by kernel_rfl) (by kernel_rfl) (by kernel_rfl) (fun _ _ _ h => h) (.inl ⟨by rfl, fun w hw => by dsimp only at hw; go_simp⟩) hHeld ?_
          simp only [Act.put, List.setIfInBounds_toArray, List.set_cons_zero, List.set_cons_succ]
          refine wpAnyH_take (i := 5) (oi := ⟨some 36, _, _, _, _, _⟩) (v := (.pointer (some ⟨gp, k * 4 + 3, none⟩))) rfl (by kernel_rfl) (by kernel_rfl) (by kernel_rfl) (fun _ _ _ h => h) (.inl ⟨by rfl, fun w hw => by dsimp only at hw; go_simp⟩) hHeld ?_
          simp only [Act.put, List.setIfInBounds_toArray, List.set_cons_zero, List.set_cons_succ]
          refine wpAnyH_take (i := 6) (oi := ⟨some 37, _, _, _, _, _⟩) (v := (.string (p.txt))) rfl (by kernel_rfl) (by kernel_rfl) (by kernel_rfl) (fun _ _ _ h => h) (.inl ⟨by rfl, fun w hw => by dsimp only at hw; go_simp⟩) hHeld ?_
          simp only [Act.put, List.setIfInBounds_toArray, List.set_cons_zero, List.set_cons_succ]
          refine wpAnyH_take (i := 7) (oi := ⟨some 38, _, _, _, _, _⟩) (v := (.int .i64 (((p.txt).size : Int)))) rfl (by kernel_rfl) (by kernel_rfl) (by kernel_rfl) (fun _ _ _ h => h) (.inl ⟨by rfl, fun w hw => by dsimp only at hw; go_simp⟩) hHeld ?_
          simp only [Act.put, List.setIfInBounds_toArray, List.set_cons_zero, List.set_cons_succ]
          refine wpAnyH_ready (rs := [1]) (by kernel_rfl) (by simp) ?_
          refine AllReadyH.cons (o := ⟨some 32, _, _, _, _, _⟩) rfl (fun K hK => ?_) AllReadyH.nil
          go_simp
          refine hK.out _ _ hHeld (fun hHeld => ?_)
          clear hK K
          refine wpAnyH_take (i := 8) (oi := ⟨some 39, _, _, _, _, _⟩) (v := (.int .i64 ((ah : Int) + (((p.txt).size : Int) : Int)))) rfl (by kernel_rfl) (by kernel_rfl) (by kernel_rfl) (fun _ _ _ h => h) (.inl ⟨by rfl, fun w hw => by dsimp only at hw; go_simp⟩) hHeld ?_
          simp only [Act.put, List.setIfInBounds_toArray, List.set_cons_zero, List.set_cons_succ]
          refine wpAnyH_take (i := 9) (oi := ⟨some 40, _, _, _, _, _⟩) (v := (.pointer (some ⟨m, 1, none⟩))) rfl (by kernel_rfl) (by kernel_rfl) (by kernel_rfl) (fun _ _ _ h => h) (.inl ⟨by rfl, fun w hw => by dsimp only at hw; go_simp⟩) hHeld ?_
          simp only [Act.put, List.setIfInBounds_toArray, List.set_cons_zero, List.set_cons_succ]
          refine wpAnyH_ready (rs := [10]) (by kernel_rfl) (by simp) ?_
          refine AllReadyH.cons (o := ⟨none, _, _, _, _, _⟩) rfl (fun K hK => ?_) AllReadyH.nil
          go_simp
          refine hK.out _ _ (cell_other hngpm hHeld) (fun hHeld => ?_)
          clear hK K
          refine wpAnyH_done (by kernel_rfl) ?_ _
          obtain ⟨WN, hWN, hr6, hf6, hc6, hh6⟩ := hrm.field hr 1 (.int .i64 (ah + p.txt.size))
          rw [hWN]
          have hr : WN.heap[m]? = some (.cells #[.int .i64 (al + p.txt.size), .int .i64 (ah + p.txt.size), .int .i64 ac, .string ⟨#[]⟩, .string ⟨#[]⟩] 24 (0, 0)) := hr6
          have hrm : Res w WN m := ⟨hf6, hrm.new, _, _, _, _, _, hr⟩
          have hres := hres.move hf6 (hh6 _ hngm)
          have c0 := hc6 _ _ _ hngpm c0
          have c1 := hc6 _ _ _ hngpm c1
          have c2 := hc6 _ _ _ hngpm c2
          have c3 := hc6 _ _ _ hngpm c3
          clear hr6 hf6 hc6 hh6 hWN hHeld k0 k1 k2 k3 k4 z0 z1 z2 z3 z4
          go_upto_region 10 with fail
          obtain ⟨WD, hWD⟩ : ∃ W, WN.drew = W := ⟨_, rfl⟩
          have fd : Frm (fun _ => False) WN WD := by rw [← hWD]; exact (Frm.refl _ _).drew
          have hr := fd.heap hr (fun h => h)
          have hrm := hrm.still fd
          have hres := hres.still fd
          have c0 := fd.cell c0 (fun h => h)
          have c1 := fd.cell c1 (fun h => h)
          have c2 := fd.cell c2 (fun h => h)
          have c3 := fd.cell c3 (fun h => h)
          obtain ⟨⟨k0, k1, k2, k3, k4⟩, z0, z1, z2, z3, z4⟩ := row_facts hr
          refine wp_region_held_drew (S := fun w' => w'.cell? ⟨gp, k * 4 + 3, none⟩ = some (.string (p.txt))) (by kernel_rfl) (by rw [hWD]; exact c3) (fun hHeld => ?_)
          rw [hWD]
          rw [hWD] at hHeld
          clear hWD fd
          refine wpAnyH_take (i := 0) (oi := ⟨some 41, _, _, _, _, _⟩) (v := (.pointer (some ⟨m, 2, none⟩))) rfl (by kernel_rfl) (by kernel_rfl) (by kernel_rfl) (fun _ _ _ h => h) (.inl ⟨by rfl, fun w hw => by dsimp only at hw; go_simp⟩) hHeld ?_
          simp only [Act.put, List.setIfInBounds_toArray, List.set_cons_zero, List.set_cons_succ]
          refine wpAnyH_take (i := 2) (oi := ⟨some 43, _, _, _, _, _⟩) (v := (.slice (some ⟨gp, 0, none⟩) ps.length cap)) rfl (by kernel_rfl) (by kernel_rfl) (by kernel_rfl) (fun _ _ _ h => h) (.inl ⟨by rfl, fun w hw => by dsimp only at hw; go_simp⟩) hHeld ?_
          simp only [Act.put, List.setIfInBounds_toArray, List.set_cons_zero, List.set_cons_succ]
          refine wpAnyH_take (i := 3) (oi := ⟨some 44, _, _, _, _, _⟩) (v := (.int .i64 (k))) rfl (by kernel_rfl) (by kernel_rfl) (by kernel_rfl) (fun _ _ _ h => h) (.inl ⟨by rfl, fun w hw => by dsimp only at hw; go_simp⟩) hHeld ?_
          simp only [Act.put, List.setIfInBounds_toArray, List.set_cons_zero, List.set_cons_succ]
          refine wpAnyH_take (i := 4) (oi := ⟨some 45, _, _, _, _, _⟩) (v := (.pointer (some ⟨gp, k * 4, none⟩))) rfl (by kernel_rfl) (by kernel_rfl) (by kernel_rfl) (fun _ _ _ h => h) (.inl ⟨by rfl, fun w hw => by dsimp only at hw; go_simp⟩) hHeld ?_
          simp only [Act.put, List.setIfInBounds_toArray, List.set_cons_zero, List.set_cons_succ]
          refine wpAnyH_take (i := 5) (oi := ⟨some 46, _, _, _, _, _⟩) (v := (.pointer (some ⟨gp, k * 4 + 3, none⟩))) rfl (by kernel_rfl) (by kernel_rfl) (by kernel_rfl) (fun _ _ _ h => h) (.inl ⟨by rfl, fun w hw => by dsimp only at hw; go_simp⟩) hHeld ?_
          simp only [Act.put, List.setIfInBounds_toArray, List.set_cons_zero, List.set_cons_succ]
          refine wpAnyH_take (i := 6) (oi := ⟨some 47, _, _, _, _, _⟩) (v := (.string (p.txt))) rfl (by kernel_rfl) (by kernel_rfl) (by kernel_rfl) (fun _ _ _ h => h) (.inl ⟨by rfl, fun w hw => by dsimp only at hw; go_simp⟩) hHeld ?_
          simp only [Act.put, List.setIfInBounds_toArray, List.set_cons_zero, List.set_cons_succ]
          refine wpAnyH_ready (rs := [1, 7]) (by kernel_rfl) (by simp) ?_
          refine AllReadyH.cons (o := ⟨some 42, _, _, _, _, _⟩) rfl (fun K hK => ?_) (AllReadyH.cons (o := ⟨some 48, _, _, _, _, _⟩) rfl (fun K hK => ?_) AllReadyH.nil)
          · skip
            go_simp
            refine hK.out _ _ hHeld (fun hHeld => ?_)
            clear hK K
            refine wpAnyH_ready (rs := [7]) (by kernel_rfl) (by simp) ?_
            refine AllReadyH.cons (o := ⟨some 48, _, _, _, _, _⟩) rfl (fun K hK => ?_) AllReadyH.nil
            go_simp
            refine (Hbt.out _).mono ?_
            rintro e V1 ⟨rfl, rfl⟩
            refine hK.out _ _ hHeld (fun hHeld => ?_)
            clear hK K
            refine wpAnyH_take (i := 8) (oi := ⟨some 49, _, _, _, _, _⟩) (v := (.int .i64 (bits .or .i64 (ac : Int) (bitsI p.txt.data.toList : Int)))) rfl (by kernel_rfl) (by kernel_rfl) (by kernel_rfl) (fun _ _ _ h => h) (.inl ⟨by rfl, fun w hw => by dsimp only at hw; go_simp⟩) hHeld ?_
            simp only [Act.put, List.setIfInBounds_toArray, List.set_cons_zero, List.set_cons_succ]
            refine wpAnyH_take (i := 9) (oi := ⟨some 50, _, _, _, _, _⟩) (v := (.pointer (some ⟨m, 2, none⟩))) rfl (by kernel_rfl) (by kernel_rfl) (by kernel_rfl) (fun _ _ _ h => h) (.inl ⟨by rfl, fun w hw => by dsimp only at hw; go_simp⟩) hHeld ?_
            simp only [Act.put, List.setIfInBounds_toArray, List.set_cons_zero, List.set_cons_succ]
            refine wpAnyH_ready (rs := [10]) (by kernel_rfl) (by simp) ?_
            refine AllReadyH.cons (o := ⟨none, _, _, _, _, _⟩) rfl (fun K hK => ?_) AllReadyH.nil
            go_simp
            refine hK.out _ _ (cell_other hngpm hHeld) (fun hHeld => ?_)
            clear hK K
            refine wpAnyH_done (by kernel_rfl) ?_ _
            obtain ⟨WN, hWN, hr6, hf6, hc6, hh6⟩ := hrm.field hr 2 (.int .i64 (bits .or .i64 ac (bitsI p.txt.data.toList)))
            rw [hWN]
            have hr : WN.heap[m]? = some (.cells #[.int .i64 (al + p.txt.size), .int .i64 (ah + p.txt.size), .int .i64 (bits .or .i64 ac (bitsI p.txt.data.toList)), .string ⟨#[]⟩, .string ⟨#[]⟩] 24 (0, 0)) := hr6
            have hrm : Res w WN m := ⟨hf6, hrm.new, _, _, _, _, _, hr⟩
            have hres := hres.move hf6 (hh6 _ hngm)
            have c0 := hc6 _ _ _ hngpm c0
            have c1 := hc6 _ _ _ hngpm c1
            have c2 := hc6 _ _ _ hngpm c2
            have c3 := hc6 _ _ _ hngpm c3
            clear hr6 hf6 hc6 hh6 hWN hHeld k0 k1 k2 k3 k4 z0 z1 z2 z3 z4
            have hrow6 : Hid (WN.heap[m]? = some (shRow (qkS ps (k + 1)))) := Lib.hid (by rw [Hnx.out]; exact hr)
            have Hres6 := Lib.hid hres
            have Hrm6 := Lib.hid hrm
            clear hr hres hrm c0 c1 c2 c3
            go_wp2_with fail
            go_roundw
            case rel => exact ⟨k + 1, by go_num, hlt, hrow6, Hres6, Hrm6⟩
            case measure => simp [intOf]; omega
          · skip
            go_simp
            refine (Hbt.out _).mono ?_
            rintro e V1 ⟨rfl, rfl⟩
            refine hK.out _ _ hHeld (fun hHeld => ?_)
            clear hK K
            refine wpAnyH_ready (rs := [1]) (by kernel_rfl) (by simp) ?_
            refine AllReadyH.cons (o := ⟨some 42, _, _, _, _, _⟩) rfl (fun K hK => ?_) AllReadyH.nil
            go_simp
            refine hK.out _ _ hHeld (fun hHeld => ?_)
            clear hK K
            refine wpAnyH_take (i := 8) (oi := ⟨some 49, _, _, _, _, _⟩) (v := (.int .i64 (bits .or .i64 (ac : Int) (bitsI p.txt.data.toList : Int)))) rfl (by kernel_rfl) (by kernel_rfl) (by kernel_rfl) (fun _ _ _ h => h) (.inl ⟨by rfl, fun w hw => by dsimp only at hw; go_simp⟩) hHeld ?_
            simp only [Act.put, List.setIfInBounds_toArray, List.set_cons_zero, List.set_cons_succ]
            refine wpAnyH_take (i := 9) (oi := ⟨some 50, _, _, _, _, _⟩) (v := (.pointer (some ⟨m, 2, none⟩))) rfl (by kernel_rfl) (by kernel_rfl) (by kernel_rfl) (fun _ _ _ h => h) (.inl ⟨by rfl, fun w hw => by dsimp only at hw; go_simp⟩) hHeld ?_
            simp only [Act.put, List.setIfInBounds_toArray, List.set_cons_zero, List.set_cons_succ]
            refine wpAnyH_ready (rs := [10]) (by kernel_rfl) (by simp) ?_
            refine AllReadyH.cons (o := ⟨none, _, _, _, _, _⟩) rfl (fun K hK => ?_) AllReadyH.nil
            go_simp
            refine hK.out _ _ (cell_other hngpm hHeld) (fun hHeld => ?_)
            clear hK K
            refine wpAnyH_done (by kernel_rfl) ?_ _
            obtain ⟨WN, hWN, hr6, hf6, hc6, hh6⟩ := hrm.field hr 2 (.int .i64 (bits .or .i64 ac (bitsI p.txt.data.toList)))
            rw [hWN]
            have hr : WN.heap[m]? = some (.cells #[.int .i64 (al + p.txt.size), .int .i64 (ah + p.txt.size), .int .i64 (bits .or .i64 ac (bitsI p.txt.data.toList)), .string ⟨#[]⟩, .string ⟨#[]⟩] 24 (0, 0)) := hr6
            have hrm : Res w WN m := ⟨hf6, hrm.new, _, _, _, _, _, hr⟩
            have hres := hres.move hf6 (hh6 _ hngm)
            have c0 := hc6 _ _ _ hngpm c0
            have c1 := hc6 _ _ _ hngpm c1
            have c2 := hc6 _ _ _ hngpm c2
            have c3 := hc6 _ _ _ hngpm c3
            clear hr6 hf6 hc6 hh6 hWN hHeld k0 k1 k2 k3 k4 z0 z1 z2 z3 z4
            have hrow6 : Hid (WN.heap[m]? = some (shRow (qkS ps (k + 1)))) := Lib.hid (by rw [Hnx.out]; exact hr)
            have Hres6 := Lib.hid hres
            have Hrm6 := Lib.hid hrm
            clear hr hres hrm c0 c1 c2 c3
            go_wp2_with fail
            go_roundw
            case rel => exact ⟨k + 1, by go_num, hlt, hrow6, Hres6, Hrm6⟩
            case measure => simp [intOf]; omega
        · have hnx := Hrun.out hc
          have hcne : (p.cls == 0) = false := by rw [beq_eq_false_iff_ne]; exact hc
          unfold pieceB at hpp
          rw [if_neg hc] at hpp
          simp only [Bool.and_eq_true, decide_eq_true_eq] at hpp
          have w1 : IntKind.i64.wrap (al + p.lo) = al + p.lo := IntWalk.i64_in _ (by omega)
          have w2 : IntKind.i64.wrap (ah + p.hi) = ah + p.hi := IntWalk.i64_in _ (by omega)
          obtain ⟨c, hcc, hcl⟩ : ∃ c : Nat, p.cls = c ∧ 1 ≤ c ∧ c ≤ 7 := ⟨p.cls.toNat, by omega, by omega, by omega⟩
          have hc8 : (c : Int) < 8 := by omega
          have Hnx := Lib.hid hnx
          clear Hrun Hlit hnx hpp
          go_upto_region 11 with fail
          rw [hcc] at c0
          have Hcc := Lib.hid hcc
          clear hc hcne hcc
          obtain ⟨WD, hWD⟩ : ∃ W, wr.drew = W := ⟨_, rfl⟩
          have fd : Frm (fun _ => False) wr WD := by rw [← hWD]; exact (Frm.refl _ _).drew
          have hr := fd.heap hr1 (fun h => h)
          have hrm := hrm.still fd
          have hres := hres.still fd
          have c0 := fd.cell c0 (fun h => h)
          have c1 := fd.cell c1 (fun h => h)
          have c2 := fd.cell c2 (fun h => h)
          have c3 := fd.cell c3 (fun h => h)
          obtain ⟨⟨k0, k1, k2, k3, k4⟩, z0, z1, z2, z3, z4⟩ := row_facts hr
          refine wp_region_held_drew (S := fun w' => w'.cell? ⟨gp, k * 4 + 1, none⟩ = some (.int .i64 (p.lo))) (by kernel_rfl) (by rw [hWD]; exact c1) (fun hHeld => ?_)
          rw [hWD]
          rw [hWD] at hHeld
          clear hWD fd
          refine wpAnyH_take (i := 0) (oi := ⟨some 51, _, _, _, _, _⟩) (v := (.pointer (some ⟨m, 0, none⟩))) rfl (by kernel_rfl) (by kernel_rfl) (by kernel_rfl) (fun _ _ _ h => h) (.inl ⟨by rfl, fun w hw => by dsimp only at hw; go_simp⟩) hHeld ?_
          simp only [Act.put, List.setIfInBounds_toArray, List.set_cons_zero, List.set_cons_succ]
          refine wpAnyH_take (i := 2) (oi := ⟨some 53, _, _, _, _, _⟩) (v := (.slice (some ⟨gp, 0, none⟩) ps.length cap)) rfl (by kernel_rfl) (by kernel_rfl) (by kernel_rfl) (fun _ _ _ h => h) (.inl ⟨by rfl, fun w hw => by dsimp only at hw; go_simp⟩) hHeld ?_
          simp only [Act.put, List.setIfInBounds_toArray, List.set_cons_zero, List.set_cons_succ]
          refine wpAnyH_take (i := 3) (oi := ⟨some 54, _, _, _, _, _⟩) (v := (.int .i64 (k))) rfl (by kernel_rfl) (by kernel_rfl) (by kernel_rfl) (fun _ _ _ h => h) (.inl ⟨by rfl, fun w hw => by dsimp only at hw; go_simp⟩) hHeld ?_
          simp only [Act.put, List.setIfInBounds_toArray, List.set_cons_zero, List.set_cons_succ]
          refine wpAnyH_take (i := 4) (oi := ⟨some 55, _, _, _, _, _⟩) (v := (.pointer (some ⟨gp, k * 4, none⟩))) rfl (by kernel_rfl) (by kernel_rfl) (by kernel_rfl) (fun _ _ _ h => h) (.inl ⟨by rfl, fun w hw => by dsimp only at hw; go_simp⟩) hHeld ?_
          simp only [Act.put, List.setIfInBounds_toArray, List.set_cons_zero, List.set_cons_succ]
          refine wpAnyH_take (i := 5) (oi := ⟨some 56, _, _, _, _, _⟩) (v := (.pointer (some ⟨gp, k * 4 + 1, none⟩))) rfl (by kernel_rfl) (by kernel_rfl) (by kernel_rfl) (fun _ _ _ h => h) (.inl ⟨by rfl, fun w hw => by dsimp only at hw; go_simp⟩) hHeld ?_
          simp only [Act.put, List.setIfInBounds_toArray, List.set_cons_zero, List.set_cons_succ]
          refine wpAnyH_take (i := 6) (oi := ⟨some 57, _, _, _, _, _⟩) (v := (.int .i64 (p.lo))) rfl (by kernel_rfl) (by kernel_rfl) (by kernel_rfl) (fun _ _ _ h => h) (.inl ⟨by rfl, fun w hw => by dsimp only at hw; go_simp⟩) hHeld ?_
          simp only [Act.put, List.setIfInBounds_toArray, List.set_cons_zero, List.set_cons_succ]
          refine wpAnyH_ready (rs := [1]) (by kernel_rfl) (by simp) ?_
          refine AllReadyH.cons (o := ⟨some 52, _, _, _, _, _⟩) rfl (fun K hK => ?_) AllReadyH.nil
          go_simp
          refine hK.out _ _ hHeld (fun hHeld => ?_)
          clear hK K
          refine wpAnyH_take (i := 7) (oi := ⟨some 58, _, _, _, _, _⟩) (v := (.int .i64 ((al : Int) + (p.lo : Int)))) rfl (by kernel_rfl) (by kernel_rfl) (by kernel_rfl) (fun _ _ _ h => h) (.inl ⟨by rfl, fun w hw => by dsimp only at hw; go_simp⟩) hHeld ?_
          simp only [Act.put, List.setIfInBounds_toArray, List.set_cons_zero, List.set_cons_succ]
          refine wpAnyH_take (i := 8) (oi := ⟨some 59, _, _, _, _, _⟩) (v := (.pointer (some ⟨m, 0, none⟩))) rfl (by kernel_rfl) (by kernel_rfl) (by kernel_rfl) (fun _ _ _ h => h) (.inl ⟨by rfl, fun w hw => by dsimp only at hw; go_simp⟩) hHeld ?_
          simp only [Act.put, List.setIfInBounds_toArray, List.set_cons_zero, List.set_cons_succ]
          refine wpAnyH_ready (rs := [9]) (by kernel_rfl) (by simp) ?_
          refine AllReadyH.cons (o := ⟨none, _, _, _, _, _⟩) rfl (fun K hK => ?_) AllReadyH.nil
          go_simp
          refine hK.out _ _ (cell_other hngpm hHeld) (fun hHeld => ?_)
          clear hK K
          refine wpAnyH_done (by kernel_rfl) ?_ _
          obtain ⟨WN, hWN, hr6, hf6, hc6, hh6⟩ := hrm.field hr 0 (.int .i64 (al + p.lo))
          rw [hWN]
          have hr : WN.heap[m]? = some (.cells #[.int .i64 (al + p.lo), .int .i64 ah, .int .i64 ac, .string ⟨#[]⟩, .string ⟨#[]⟩] 24 (0, 0)) := hr6
          have hrm : Res w WN m := ⟨hf6, hrm.new, _, _, _, _, _, hr⟩
          have hres := hres.move hf6 (hh6 _ hngm)
          have c0 := hc6 _ _ _ hngpm c0
          have c1 := hc6 _ _ _ hngpm c1
          have c2 := hc6 _ _ _ hngpm c2
          have c3 := hc6 _ _ _ hngpm c3
          clear hr6 hf6 hc6 hh6 hWN hHeld k0 k1 k2 k3 k4 z0 z1 z2 z3 z4
          go_upto_region 12 with fail
          obtain ⟨WD, hWD⟩ : ∃ W, WN.drew = W := ⟨_, rfl⟩
          have fd : Frm (fun _ => False) WN WD := by rw [← hWD]; exact (Frm.refl _ _).drew
          have hr := fd.heap hr (fun h => h)
          have hrm := hrm.still fd
          have hres := hres.still fd
          have c0 := fd.cell c0 (fun h => h)
          have c1 := fd.cell c1 (fun h => h)
          have c2 := fd.cell c2 (fun h => h)
          have c3 := fd.cell c3 (fun h => h)
          obtain ⟨⟨k0, k1, k2, k3, k4⟩, z0, z1, z2, z3, z4⟩ := row_facts hr
          refine wp_region_held_drew (S := fun w' => w'.cell? ⟨gp, k * 4 + 2, none⟩ = some (.int .i64 (p.hi))) (by kernel_rfl) (by rw [hWD]; exact c2) (fun hHeld => ?_)
          rw [hWD]
          rw [hWD] at hHeld
          clear hWD fd
          refine wpAnyH_take (i := 0) (oi := ⟨some 60, _, _, _, _, _⟩) (v := (.pointer (some ⟨m, 1, none⟩))) rfl (by kernel_rfl) (by kernel_rfl) (by kernel_rfl) (fun _ _ _ h => h) (.inl ⟨by rfl, fun w hw => by dsimp only at hw; go_simp⟩) hHeld ?_
          simp only [Act.put, List.setIfInBounds_toArray, List.set_cons_zero, List.set_cons_succ]
          refine wpAnyH_take (i := 2) (oi := ⟨some 62, _, _, _, _, _⟩) (v := (.slice (some ⟨gp, 0, none⟩) ps.length cap)) rfl (by kernel_rfl) (by kernel_rfl) (by kernel_rfl) (fun _ _ _ h => h) (.inl ⟨by rfl, fun w hw => by dsimp only at hw; go_simp⟩) hHeld ?_
          simp only [Act.put, List.setIfInBounds_toArray, List.set_cons_zero, List.set_cons_succ]
          refine wpAnyH_take (i := 3) (oi := ⟨some 63, _, _, _, _, _⟩) (v := (.int .i64 (k))) rfl (by kernel_rfl) (by kernel_rfl) (by kernel_rfl) (fun _ _ _ h => h) (.inl ⟨by rfl, fun w hw => by dsimp only at hw; go_simp⟩) hHeld ?_
          simp only [Act.put, List.setIfInBounds_toArray, List.set_cons_zero, List.set_cons_succ]
          refine wpAnyH_take (i := 4) (oi := ⟨some 64, _, _, _, _, _⟩) (v := (.pointer (some ⟨gp, k * 4, none⟩))) rfl (by kernel_rfl) (by kernel_rfl) (by kernel_rfl) (fun _ _ _ h => h) (.inl ⟨by rfl, fun w hw => by dsimp only at hw; go_simp⟩) hHeld ?_
          simp only [Act.put, List.setIfInBounds_toArray, List.set_cons_zero, List.set_cons_succ]
          refine wpAnyH_take (i := 5) (oi := ⟨some 65, _, _, _, _, _⟩) (v := (.pointer (some ⟨gp, k * 4 + 2, none⟩))) rfl (by kernel_rfl) (by kernel_rfl) (by kernel_rfl) (fun _ _ _ h => h) (.inl ⟨by rfl, fun w hw => by dsimp only at hw; go_simp⟩) hHeld ?_
          simp only [Act.put, List.setIfInBounds_toArray, List.set_cons_zero, List.set_cons_succ]
          refine wpAnyH_take (i := 6) (oi := ⟨some 66, _, _, _, _, _⟩) (v := (.int .i64 (p.hi))) rfl (by kernel_rfl) (by kernel_rfl) (by kernel_rfl) (fun _ _ _ h => h) (.inl ⟨by rfl, fun w hw => by dsimp only at hw; go_simp⟩) hHeld ?_
          simp only [Act.put, List.setIfInBounds_toArray, List.set_cons_zero, List.set_cons_succ]
          refine wpAnyH_ready (rs := [1]) (by kernel_rfl) (by simp) ?_
          refine AllReadyH.cons (o := ⟨some 61, _, _, _, _, _⟩) rfl (fun K hK => ?_) AllReadyH.nil
          go_simp
          refine hK.out _ _ hHeld (fun hHeld => ?_)
          clear hK K
          refine wpAnyH_take (i := 7) (oi := ⟨some 67, _, _, _, _, _⟩) (v := (.int .i64 ((ah : Int) + (p.hi : Int)))) rfl (by kernel_rfl) (by kernel_rfl) (by kernel_rfl) (fun _ _ _ h => h) (.inl ⟨by rfl, fun w hw => by dsimp only at hw; go_simp⟩) hHeld ?_
          simp only [Act.put, List.setIfInBounds_toArray, List.set_cons_zero, List.set_cons_succ]
          refine wpAnyH_take (i := 8) (oi := ⟨some 68, _, _, _, _, _⟩) (v := (.pointer (some ⟨m, 1, none⟩))) rfl (by kernel_rfl) (by kernel_rfl) (by kernel_rfl) (fun _ _ _ h => h) (.inl ⟨by rfl, fun w hw => by dsimp only at hw; go_simp⟩) hHeld ?_
          simp only [Act.put, List.setIfInBounds_toArray, List.set_cons_zero, List.set_cons_succ]
          refine wpAnyH_ready (rs := [9]) (by kernel_rfl) (by simp) ?_
          refine AllReadyH.cons (o := ⟨none, _, _, _, _, _⟩) rfl (fun K hK => ?_) AllReadyH.nil
          go_simp
          refine hK.out _ _ (cell_other hngpm hHeld) (fun hHeld => ?_)
          clear hK K
          refine wpAnyH_done (by kernel_rfl) ?_ _
          obtain ⟨WN, hWN, hr6, hf6, hc6, hh6⟩ := hrm.field hr 1 (.int .i64 (ah + p.hi))
          rw [hWN]
          have hr : WN.heap[m]? = some (.cells #[.int .i64 (al + p.lo), .int .i64 (ah + p.hi), .int .i64 ac, .string ⟨#[]⟩, .string ⟨#[]⟩] 24 (0, 0)) := hr6
          have hrm : Res w WN m := ⟨hf6, hrm.new, _, _, _, _, _, hr⟩
          have hres := hres.move hf6 (hh6 _ hngm)
          have c0 := hc6 _ _ _ hngpm c0
          have c1 := hc6 _ _ _ hngpm c1
          have c2 := hc6 _ _ _ hngpm c2
          have c3 := hc6 _ _ _ hngpm c3
          clear hr6 hf6 hc6 hh6 hWN hHeld k0 k1 k2 k3 k4 z0 z1 z2 z3 z4
          go_upto_region 13 with fail
          obtain ⟨WD, hWD⟩ : ∃ W, WN.drew = W := ⟨_, rfl⟩
          have fd : Frm (fun _ => False) WN WD := by rw [← hWD]; exact (Frm.refl _ _).drew
          have hr := fd.heap hr (fun h => h)
          have hrm := hrm.still fd
          have hres := hres.still fd
          have c0 := fd.cell c0 (fun h => h)
          have c1 := fd.cell c1 (fun h => h)
          have c2 := fd.cell c2 (fun h => h)
          have c3 := fd.cell c3 (fun h => h)
          obtain ⟨⟨k0, k1, k2, k3, k4⟩, z0, z1, z2, z3, z4⟩ := row_facts hr
          refine wp_region_held_drew (S := fun w' => w'.cell? ⟨gp, k * 4, none⟩ = some (.int .i64 ((c : Int)))) (by kernel_rfl) (by rw [hWD]; exact c0) (fun hHeld => ?_)
          rw [hWD]
          rw [hWD] at hHeld
          clear hWD fd
          refine wpAnyH_take (i := 0) (oi := ⟨some 69, _, _, _, _, _⟩) (v := (.pointer (some ⟨m, 2, none⟩))) rfl (by kernel_rfl) (by kernel_rfl) (by kernel_rfl) (fun _ _ _ h => h) (.inl ⟨by rfl, fun w hw => by dsimp only at hw; go_simp⟩) hHeld ?_
          simp only [Act.put, List.setIfInBounds_toArray, List.set_cons_zero, List.set_cons_succ]
          refine wpAnyH_take (i := 3) (oi := ⟨some 72, _, _, _, _, _⟩) (v := (.slice (some ⟨gp, 0, none⟩) ps.length cap)) rfl (by kernel_rfl) (by kernel_rfl) (by kernel_rfl) (fun _ _ _ h => h) (.inl ⟨by rfl, fun w hw => by dsimp only at hw; go_simp⟩) hHeld ?_
          simp only [Act.put, List.setIfInBounds_toArray, List.set_cons_zero, List.set_cons_succ]
          refine wpAnyH_take (i := 4) (oi := ⟨some 73, _, _, _, _, _⟩) (v := (.int .i64 (k))) rfl (by kernel_rfl) (by kernel_rfl) (by kernel_rfl) (fun _ _ _ h => h) (.inl ⟨by rfl, fun w hw => by dsimp only at hw; go_simp⟩) hHeld ?_
          simp only [Act.put, List.setIfInBounds_toArray, List.set_cons_zero, List.set_cons_succ]
          refine wpAnyH_take (i := 5) (oi := ⟨some 74, _, _, _, _, _⟩) (v := (.pointer (some ⟨gp, k * 4, none⟩))) rfl (by kernel_rfl) (by kernel_rfl) (by kernel_rfl) (fun _ _ _ h => h) (.inl ⟨by rfl, fun w hw => by dsimp only at hw; go_simp⟩) hHeld ?_
          simp only [Act.put, List.setIfInBounds_toArray, List.set_cons_zero, List.set_cons_succ]
          refine wpAnyH_take (i := 6) (oi := ⟨some 75, _, _, _, _, _⟩) (v := (.pointer (some ⟨gp, k * 4, none⟩))) rfl (by kernel_rfl) (by kernel_rfl) (by kernel_rfl) (fun _ _ _ h => h) (.inl ⟨by rfl, fun w hw => by dsimp only at hw; go_simp⟩) hHeld ?_
          simp only [Act.put, List.setIfInBounds_toArray, List.set_cons_zero, List.set_cons_succ]
          refine wpAnyH_take (i := 7) (oi := ⟨some 76, _, _, _, _, _⟩) (v := (.int .i64 ((c : Int)))) rfl (by kernel_rfl) (by kernel_rfl) (by kernel_rfl) (fun _ _ _ h => h) (.inl ⟨by rfl, fun w hw => by dsimp only at hw; go_simp⟩) hHeld ?_
          simp only [Act.put, List.setIfInBounds_toArray, List.set_cons_zero, List.set_cons_succ]
          refine wpAnyH_ready (rs := [1, 2]) (by kernel_rfl) (by simp) ?_
          refine AllReadyH.cons (o := ⟨some 70, _, _, _, _, _⟩) rfl (fun K hK => ?_) (AllReadyH.cons (o := ⟨some 71, _, _, _, _, _⟩) rfl (fun K hK => ?_) AllReadyH.nil)
          · skip
            go_simp
            refine hK.out _ _ hHeld (fun hHeld => ?_)
            clear hK K
            refine wpAnyH_ready (rs := [2]) (by kernel_rfl) (by simp) ?_
            refine AllReadyH.cons (o := ⟨some 71, _, _, _, _, _⟩) rfl (fun K hK => ?_) AllReadyH.nil
            go_simp
            have fB := (Frm.refl (fun _ => False) WD).alloc (.cells #[.int .i64 0, .int .i64 2, .int .i64 4, .int .i64 8, .int .i64 12, .int .i64 32, .int .i64 64, .int .i64 110] 3)
            have hB := heap_alloc_new WD (.cells #[.int .i64 0, .int .i64 2, .int .i64 4, .int .i64 8, .int .i64 12, .int .i64 32, .int .i64 64, .int .i64 110] 3)
            have hC := cell_of_row _ _ c _ _ _ hB
            rw [cb_row c hcl.1 hcl.2] at hC
            obtain ⟨WB, hWB⟩ : ∃ W, W = WD.alloc (.cells #[.int .i64 0, .int .i64 2, .int .i64 4, .int .i64 8, .int .i64 12, .int .i64 32, .int .i64 64, .int .i64 110] 3) := ⟨_, rfl⟩
            obtain ⟨bb, hbb⟩ : ∃ b, b = WD.heap.size := ⟨_, rfl⟩
            rw [← hWB, ← hbb] at hC
            rw [← hWB] at fB
            rw [← hWB, ← hbb]
            clear hWB hbb hB
            have hr := fB.heap hr (fun h => h)
            have hrm := hrm.still fB
            have hres := hres.still fB
            clear k0 k1 k2 k3 k4 z0 z1 z2 z3 z4
            obtain ⟨⟨k0, k1, k2, k3, k4⟩, z0, z1, z2, z3, z4⟩ := row_facts hr
            refine hK.out _ _ (fB.cell hHeld (fun h => h)) (fun hHeld => ?_)
            clear hK K fB
            refine wpAnyH_take (i := 8) (oi := ⟨some 77, _, _, _, _, _⟩) (v := (.pointer (some ⟨bb, c, none⟩))) rfl (by kernel_rfl) (by kernel_rfl) (by kernel_rfl) (fun _ _ _ h => h) (.inl ⟨by rfl, fun w hw => by dsimp only at hw; go_simp⟩) hHeld ?_
            simp only [Act.put, List.setIfInBounds_toArray, List.set_cons_zero, List.set_cons_succ]
            refine wpAnyH_ready (rs := [9]) (by kernel_rfl) (by simp) ?_
            refine AllReadyH.cons (o := ⟨some 78, _, _, _, _, _⟩) rfl (fun K hK => ?_) AllReadyH.nil
            go_simp
            refine hK.out _ _ hHeld (fun hHeld => ?_)
            clear hK K
            refine wpAnyH_take (i := 10) (oi := ⟨some 79, _, _, _, _, _⟩) (v := (.int .i64 (bits .or .i64 (ac : Int) (cbI (c : Int) : Int)))) rfl (by kernel_rfl) (by kernel_rfl) (by kernel_rfl) (fun _ _ _ h => h) (.inl ⟨by rfl, fun w hw => by dsimp only at hw; go_simp⟩) hHeld ?_
            simp only [Act.put, List.setIfInBounds_toArray, List.set_cons_zero, List.set_cons_succ]
            refine wpAnyH_take (i := 11) (oi := ⟨some 80, _, _, _, _, _⟩) (v := (.pointer (some ⟨m, 2, none⟩))) rfl (by kernel_rfl) (by kernel_rfl) (by kernel_rfl) (fun _ _ _ h => h) (.inl ⟨by rfl, fun w hw => by dsimp only at hw; go_simp⟩) hHeld ?_
            simp only [Act.put, List.setIfInBounds_toArray, List.set_cons_zero, List.set_cons_succ]
            refine wpAnyH_ready (rs := [12]) (by kernel_rfl) (by simp) ?_
            refine AllReadyH.cons (o := ⟨none, _, _, _, _, _⟩) rfl (fun K hK => ?_) AllReadyH.nil
            go_simp
            refine hK.out _ _ (cell_other hngpm hHeld) (fun hHeld => ?_)
            clear hK K
            refine wpAnyH_done (by kernel_rfl) ?_ _
            obtain ⟨WN, hWN, hr6, hf6, hc6, hh6⟩ := hrm.field hr 2 (.int .i64 (bits .or .i64 ac (cbI (c : Int))))
            rw [hWN]
            have hr : WN.heap[m]? = some (.cells #[.int .i64 (al + p.lo), .int .i64 (ah + p.hi), .int .i64 (bits .or .i64 ac (cbI (c : Int))), .string ⟨#[]⟩, .string ⟨#[]⟩] 24 (0, 0)) := hr6
            have hrm : Res w WN m := ⟨hf6, hrm.new, _, _, _, _, _, hr⟩
            have hres := hres.move hf6 (hh6 _ hngm)
            clear hr6 hf6 hc6 hh6 hWN hHeld k0 k1 k2 k3 k4 z0 z1 z2 z3 z4
            have hnx := Hnx.out
            rw [Hcc.out] at hnx
            have Hnx2 := Lib.hid hnx
            clear hnx
            have hrow6 : Hid (WN.heap[m]? = some (shRow (qkS ps (k + 1)))) := Lib.hid (by rw [Hnx2.out]; exact hr)
            have Hres6 := Lib.hid hres
            have Hrm6 := Lib.hid hrm
            clear hr hres hrm c0 c1 c2 c3
            go_wp2_with fail
            go_roundw
            case rel => exact ⟨k + 1, by go_num, hlt, hrow6, Hres6, Hrm6⟩
            case measure => simp [intOf]; omega
          · skip
            go_simp
            have fB := (Frm.refl (fun _ => False) WD).alloc (.cells #[.int .i64 0, .int .i64 2, .int .i64 4, .int .i64 8, .int .i64 12, .int .i64 32, .int .i64 64, .int .i64 110] 3)
            have hB := heap_alloc_new WD (.cells #[.int .i64 0, .int .i64 2, .int .i64 4, .int .i64 8, .int .i64 12, .int .i64 32, .int .i64 64, .int .i64 110] 3)
            have hC := cell_of_row _ _ c _ _ _ hB
            rw [cb_row c hcl.1 hcl.2] at hC
            obtain ⟨WB, hWB⟩ : ∃ W, W = WD.alloc (.cells #[.int .i64 0, .int .i64 2, .int .i64 4, .int .i64 8, .int .i64 12, .int .i64 32, .int .i64 64, .int .i64 110] 3) := ⟨_, rfl⟩
            obtain ⟨bb, hbb⟩ : ∃ b, b = WD.heap.size := ⟨_, rfl⟩
            rw [← hWB, ← hbb] at hC
            rw [← hWB] at fB
            rw [← hWB, ← hbb]
            clear hWB hbb hB
            have hr := fB.heap hr (fun h => h)
            have hrm := hrm.still fB
            have hres := hres.still fB
            clear k0 k1 k2 k3 k4 z0 z1 z2 z3 z4
            obtain ⟨⟨k0, k1, k2, k3, k4⟩, z0, z1, z2, z3, z4⟩ := row_facts hr
            refine hK.out _ _ (fB.cell hHeld (fun h => h)) (fun hHeld => ?_)
            clear hK K fB
            refine wpAnyH_take (i := 8) (oi := ⟨some 77, _, _, _, _, _⟩) (v := (.pointer (some ⟨bb, c, none⟩))) rfl (by kernel_rfl) (by kernel_rfl) (by kernel_rfl) (fun _ _ _ h => h) (.inl ⟨by rfl, fun w hw => by dsimp only at hw; go_simp⟩) hHeld ?_
            simp only [Act.put, List.setIfInBounds_toArray, List.set_cons_zero, List.set_cons_succ]
            refine wpAnyH_ready (rs := [1, 9]) (by kernel_rfl) (by simp) ?_
            refine AllReadyH.cons (o := ⟨some 70, _, _, _, _, _⟩) rfl (fun K hK => ?_) (AllReadyH.cons (o := ⟨some 78, _, _, _, _, _⟩) rfl (fun K hK => ?_) AllReadyH.nil)
            · skip
              go_simp
              refine hK.out _ _ hHeld (fun hHeld => ?_)
              clear hK K
              refine wpAnyH_ready (rs := [9]) (by kernel_rfl) (by simp) ?_
              refine AllReadyH.cons (o := ⟨some 78, _, _, _, _, _⟩) rfl (fun K hK => ?_) AllReadyH.nil
              go_simp
              refine hK.out _ _ hHeld (fun hHeld => ?_)
              clear hK K
              refine wpAnyH_take (i := 10) (oi := ⟨some 79, _, _, _, _, _⟩) (v := (.int .i64 (bits .or .i64 (ac : Int) (cbI (c : Int) : Int)))) rfl (by kernel_rfl) (by kernel_rfl) (by kernel_rfl) (fun _ _ _ h => h) (.inl ⟨by rfl, fun w hw => by dsimp only at hw; go_simp⟩) hHeld ?_
              simp only [Act.put, List.setIfInBounds_toArray, List.set_cons_zero, List.set_cons_succ]
              refine wpAnyH_take (i := 11) (oi := ⟨some 80, _, _, _, _, _⟩) (v := (.pointer (some ⟨m, 2, none⟩))) rfl (by kernel_rfl) (by kernel_rfl) (by kernel_rfl) (fun _ _ _ h => h) (.inl ⟨by rfl, fun w hw => by dsimp only at hw; go_simp⟩) hHeld ?_
              simp only [Act.put, List.setIfInBounds_toArray, List.set_cons_zero, List.set_cons_succ]
              refine wpAnyH_ready (rs := [12]) (by kernel_rfl) (by simp) ?_
              refine AllReadyH.cons (o := ⟨none, _, _, _, _, _⟩) rfl (fun K hK => ?_) AllReadyH.nil
              go_simp
              refine hK.out _ _ (cell_other hngpm hHeld) (fun hHeld => ?_)
              clear hK K
              refine wpAnyH_done (by kernel_rfl) ?_ _
              obtain ⟨WN, hWN, hr6, hf6, hc6, hh6⟩ := hrm.field hr 2 (.int .i64 (bits .or .i64 ac (cbI (c : Int))))
              rw [hWN]
              have hr : WN.heap[m]? = some (.cells #[.int .i64 (al + p.lo), .int .i64 (ah + p.hi), .int .i64 (bits .or .i64 ac (cbI (c : Int))), .string ⟨#[]⟩, .string ⟨#[]⟩] 24 (0, 0)) := hr6
              have hrm : Res w WN m := ⟨hf6, hrm.new, _, _, _, _, _, hr⟩
              have hres := hres.move hf6 (hh6 _ hngm)
              clear hr6 hf6 hc6 hh6 hWN hHeld k0 k1 k2 k3 k4 z0 z1 z2 z3 z4
              have hnx := Hnx.out
              rw [Hcc.out] at hnx
              have Hnx2 := Lib.hid hnx
              clear hnx
              have hrow6 : Hid (WN.heap[m]? = some (shRow (qkS ps (k + 1)))) := Lib.hid (by rw [Hnx2.out]; exact hr)
              have Hres6 := Lib.hid hres
              have Hrm6 := Lib.hid hrm
              clear hr hres hrm c0 c1 c2 c3
              go_wp2_with fail
              go_roundw
              case rel => exact ⟨k + 1, by go_num, hlt, hrow6, Hres6, Hrm6⟩
              case measure => simp [intOf]; omega
            · skip
              go_simp
              refine hK.out _ _ hHeld (fun hHeld => ?_)
              clear hK K
              refine wpAnyH_ready (rs := [1]) (by kernel_rfl) (by simp) ?_
              refine AllReadyH.cons (o := ⟨some 70, _, _, _, _, _⟩) rfl (fun K hK => ?_) AllReadyH.nil
              go_simp
              refine hK.out _ _ hHeld (fun hHeld => ?_)
              clear hK K
              refine wpAnyH_take (i := 10) (oi := ⟨some 79, _, _, _, _, _⟩) (v := (.int .i64 (bits .or .i64 (ac : Int) (cbI (c : Int) : Int)))) rfl (by kernel_rfl) (by kernel_rfl) (by kernel_rfl) (fun _ _ _ h => h) (.inl ⟨by rfl, fun w hw => by dsimp only at hw; go_simp⟩) hHeld ?_
              simp only [Act.put, List.setIfInBounds_toArray, List.set_cons_zero, List.set_cons_succ]
              refine wpAnyH_take (i := 11) (oi := ⟨some 80, _, _, _, _, _⟩) (v := (.pointer (some ⟨m, 2, none⟩))) rfl (by kernel_rfl) (by kernel_rfl) (by kernel_rfl) (fun _ _ _ h => h) (.inl ⟨by rfl, fun w hw => by dsimp only at hw; go_simp⟩) hHeld ?_
              simp only [Act.put, List.setIfInBounds_toArray, List.set_cons_zero, List.set_cons_succ]
              refine wpAnyH_ready (rs := [12]) (by kernel_rfl) (by simp) ?_
              refine AllReadyH.cons (o := ⟨none, _, _, _, _, _⟩) rfl (fun K hK => ?_) AllReadyH.nil
              go_simp
              refine hK.out _ _ (cell_other hngpm hHeld) (fun hHeld => ?_)
              clear hK K
              refine wpAnyH_done (by kernel_rfl) ?_ _
              obtain ⟨WN, hWN, hr6, hf6, hc6, hh6⟩ := hrm.field hr 2 (.int .i64 (bits .or .i64 ac (cbI (c : Int))))
              rw [hWN]
              have hr : WN.heap[m]? = some (.cells #[.int .i64 (al + p.lo), .int .i64 (ah + p.hi), .int .i64 (bits .or .i64 ac (cbI (c : Int))), .string ⟨#[]⟩, .string ⟨#[]⟩] 24 (0, 0)) := hr6
              have hrm : Res w WN m := ⟨hf6, hrm.new, _, _, _, _, _, hr⟩
              have hres := hres.move hf6 (hh6 _ hngm)
              clear hr6 hf6 hc6 hh6 hWN hHeld k0 k1 k2 k3 k4 z0 z1 z2 z3 z4
              have hnx := Hnx.out
              rw [Hcc.out] at hnx
              have Hnx2 := Lib.hid hnx
              clear hnx
              have hrow6 : Hid (WN.heap[m]? = some (shRow (qkS ps (k + 1)))) := Lib.hid (by rw [Hnx2.out]; exact hr)
              have Hres6 := Lib.hid hres
              have Hrm6 := Lib.hid hrm
              clear hr hres hrm c0 c1 c2 c3
              go_wp2_with fail
              go_roundw
              case rel => exact ⟨k + 1, by go_num, hlt, hrow6, Hres6, Hrm6⟩
              case measure => simp [intOf]; omega
      · obtain rfl : k = ps.length := by omega
        have hend : ¬ (ps.length : Int) < (ps.length : Int) := by omega
        have hr1 := hrow.out
        have hE := HE.out
        have e1 : sumL leastP (ps.take ps.length) = (qkS ps ps.length).lo := rfl
        have e2 : sumL mostP (ps.take ps.length) = (qkS ps ps.length).hi := rfl
        rw [e1, e2] at hs4
        have hq : qkS ps ps.length = ⟨(qkS ps ps.length).lo, (qkS ps ps.length).hi, (qkS ps ps.length).cl, ⟨#[]⟩, ⟨#[]⟩⟩ := rfl
        rw [hq] at hr1
        unfold shRow at hr1
        simp only at hr1
        generalize (qkS ps ps.length).lo = al at *
        generalize (qkS ps ps.length).hi = ah at *
        generalize (qkS ps ps.length).cl = ac at *
        have HE2 := Lib.hid hE
        have hres2 := hres.out
        have hrm2 := hrm.out
        obtain ⟨⟨k0, k1, k2, k3, k4⟩, z0, z1, z2, z3, z4⟩ := row_facts hr1
        clear hE HE hrow hres hrm hlt hq e1 e2
        by_cases h200 : 200 < al
        · have hR : Hid (patS ps = none') := Lib.hid (by rw [HE2.out, if_pos h200])
          clear HE2
          go_wp2_with fail
          refine (Hnone.out _).mono ?_
          rintro e W2 ⟨rfl, f2⟩
          have hres := hres2.still f2
          clear k0 k1 k2 k3 k4 z0 z1 z2 z3 z4
          obtain ⟨u0, u1, u2, u3, u4, ⟨c0, c1, c2, c3, c4⟩, z0, z1, z2, z3, z4⟩ := hres.facts
          have Hr := Lib.hid hres
          clear hres f2 hres2 hrm2
          go_wp2_with fail
          exact Hr.out.ret Tryd.results49 rfl rfl fun W f => ⟨by rw [hR.out]; rfl, f⟩
        · have hR : Hid (patS ps = ⟨al, min ah 200, ac, litT ps.head?, litT ps.getLast?⟩) := Lib.hid (by rw [HE2.out, if_neg h200])
          clear HE2
          go_upto_region 17 with fail
          obtain ⟨W3, hW3, hr3, hf3, hc3, hh3⟩ := hrm2.field hr1 1 (.int .i64 (min ah 200))
          rw [hW3]
          have hr3 : W3.heap[m]? = some (.cells #[.int .i64 al, .int .i64 (min ah 200), .int .i64 ac, .string ⟨#[]⟩, .string ⟨#[]⟩] 24 (0, 0)) := hr3
          have hrm3 : Res w W3 m := ⟨hf3, hrm2.new, _, _, _, _, _, hr3⟩
          have hres3 := hres2.move hf3 (hh3 _ hngm)
          clear k0 k1 k2 k3 k4 z0 z1 z2 z3 z4 hW3 hf3 hc3 hh3 hrm2 hres2 hr1
          by_cases h0 : 0 < ps.length
          · have h0I : (0 : Int) < (ps.length : Int) := by omega
            have hm0 := lit_txt (Hmem.out _ (List.getElem_mem h0))
            have hm1 := lit_txt (Hmem.out _ (List.getElem_mem (show ps.length - 1 < ps.length by omega)))
            have hh : ps.head? = some ps[0] := by rw [List.head?_eq_getElem?, List.getElem?_eq_getElem h0]
            have ht : ps.getLast? = some ps[ps.length - 1] := by rw [List.getLast?_eq_getElem?, List.getElem?_eq_getElem (by omega)]
            obtain ⟨gp, hao, ⟨-, -, -, c3⟩, -⟩ := (HP.out.still hres3.frm).at' 0 h0
            subst hao
            obtain ⟨gp', hao, ⟨-, -, -, d3⟩, -⟩ := (HP.out.still hres3.frm).at' (ps.length - 1) (by omega)
            have hgg : gp' = gp := by injection hao with e; injection e with e; exact e.symm
            subst hgg
            have hngpm : gp' ≠ m := fun e => gp_ne HP.out hrm3 h0 e
            have hR : Hid (patS ps = ⟨al, min ah 200, ac, ps[0].txt, ps[ps.length - 1].txt⟩) := Lib.hid (by rw [hR.out, hh, ht, hm0, hm1])
            have hl : (ps.length : Int) - 1 = ((ps.length - 1 : Nat) : Int) := by omega
            have hw : IntKind.i64.wrap ((ps.length : Int) - 1) = ((ps.length - 1 : Nat) : Int) := by rw [IntWalk.i64_in _ (by omega)]; exact hl
            have hlI : ((ps.length - 1 : Nat) : Int) < (ps.length : Int) := by omega
            rw [Nat.zero_mul, Nat.zero_add] at c3
            generalize ps[0].txt = T0 at *
            generalize ps[ps.length - 1].txt = T1 at *
            clear hm0 hm1 hh ht hao hl
            generalize hj : ps.length - 1 = j at *
            obtain ⟨⟨k0, k1, k2, k3, k4⟩, z0, z1, z2, z3, z4⟩ := row_facts hr3
            go_upto_region 19 with fail
            obtain ⟨W4, hW4, hr4, hf4, hc4, hh4⟩ := hrm3.field hr3 3 (.string T0)
            rw [hW4]
            have hr4 : W4.heap[m]? = some (.cells #[.int .i64 al, .int .i64 (min ah 200), .int .i64 ac, .string T0, .string ⟨#[]⟩] 24 (0, 0)) := hr4
            have hrm4 : Res w W4 m := ⟨hf4, hrm3.new, _, _, _, _, _, hr4⟩
            have hres4 := hres3.move hf4 (hh4 _ hngm)
            have d3 := hc4 _ _ _ hngpm d3
            clear k0 k1 k2 k3 k4 z0 z1 z2 z3 z4 hW4 hf4 hc4 hh4 hrm3 hres3 hr3 c3
            obtain ⟨⟨k0, k1, k2, k3, k4⟩, z0, z1, z2, z3, z4⟩ := row_facts hr4
            go_upto_region 20 with fail
            obtain ⟨W5, hW5, hr5, hf5, hc5, hh5⟩ := hrm4.field hr4 4 (.string T1)
            rw [hW5]
            have hr5 : W5.heap[m]? = some (.cells #[.int .i64 al, .int .i64 (min ah 200), .int .i64 ac, .string T0, .string T1] 24 (0, 0)) := hr5
            have hres5 := hres4.move hf5 (hh5 _ hngm)
            clear k0 k1 k2 k3 k4 z0 z1 z2 z3 z4 hW5 hf5 hc5 hh5 hrm4 hres4 hr4 d3
            obtain ⟨⟨k0, k1, k2, k3, k4⟩, -⟩ := row_facts hr5
            obtain ⟨u0, u1, u2, u3, u4, ⟨c0, c1, c2, c3, c4⟩, z0, z1, z2, z3, z4⟩ := hres5.facts
            have Hr := Lib.hid hres5
            clear hres5 hr5
            go_wp2_with fail
            exact Hr.out.ret Tryd.results49 rfl rfl fun W f => ⟨by rw [hR.out]; rfl, f⟩
          · have h0I : ¬ (0 : Int) < (ps.length : Int) := by omega
            have hR : Hid (patS ps = ⟨al, min ah 200, ac, ⟨#[]⟩, ⟨#[]⟩⟩) := Lib.hid (by rw [hR.out, List.eq_nil_of_length_eq_zero (show ps.length = 0 by omega)]; rfl)
            obtain ⟨⟨k0, k1, k2, k3, k4⟩, -⟩ := row_facts hr3
            obtain ⟨u0, u1, u2, u3, u4, ⟨c0, c1, c2, c3, c4⟩, z0, z1, z2, z3, z4⟩ := hres3.facts
            have Hr := Lib.hid hres3
            clear hres3 hr3
            go_wp2_with fail
            exact Hr.out.ret Tryd.results49 rfl rfl fun W f => ⟨by rw [hR.out]; rfl, f⟩
end Go.Proofs.YtgnjakaamgeibaaDoor
