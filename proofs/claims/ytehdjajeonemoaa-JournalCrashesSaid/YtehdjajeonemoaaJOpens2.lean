/-
  The reference journal's Opens, where the list has one record more, which may be there. Conditions: the lists and the journal lie among the things in memory.
-/
import Derived.Test.YtehdjajeonemoaaJOpens
import Derived.Deep.RegionHeld3
import Derived.IntWalk
namespace Go.Proofs.Ytehdjajeonemoaa
open Go.RowKit

section
variable {w0 w : World} {L : List Thing}

theorem step_append_strs {K : Act → World → Prop} {Q : Exit → Act → World → Prop} {E : Prop} {ops : Array Oper} {o : Oper} {a : Act} (hgd : o.guard = none) (s x : Operand)
    (ho : o.op = .call { callee := .builtin .append, args := #[s, x], argTypes := #[64, 64] }) (v vs : Value) (n : Nat) (xs : List Value) (l : List (List UInt8)) (hs : a.eval s = v) (hx : a.eval x = vs)
    (hown : w.ownsRow 0 9 1 v n xs) (hsrc : w.ownsRow 0 9 1 vs l.length (l.map strV')) (hb : (n + l.length) * 16 ≤ 140737488355328) (hm : n + l.length ≤ maxLen)
    (h : ∀ v' w', w'.ownsRow 0 9 1 v' (n + l.length) (xs ++ l.map strV') → Frm (Blk v) w w' → (∀ k, Blk v' k → Blk v k ∨ w.heap.size ≤ k) → K (a.put o.dst v') w') : if Region.wanted o (yielded ops a.tmps) = true then Oper.wp Try.prog o a w K Q else E := by
  have hw : Region.wanted o (yielded ops a.tmps) = true := by simp [Region.wanted, hgd]
  rw [if_pos hw]
  obtain ⟨v', w', hr, h1, h2, h3⟩ := run_append_strs (w := w) o.type v vs n xs l hown hsrc hb hm
  unfold Oper.wp execOp
  simp only [ho, resolve, invoke, builtin, Sem.run_bind, Sem.run_pure, Result.andThen_ok, List.map_toArray, List.map_cons, List.map_nil, hs, hx, hr]
  exact h v' w' h1 h2 h3

theorem cells_obj {x : Nat} {v : Value} {t : TypeId} (h : w.heap[x]? = some (.cells #[v] t (0, 0))) : ∀ j u, [v][j]? = some u → w.cell? ((⟨x, 0, none⟩ : Addr).add j) = some u := by
  intro j u hj
  cases j with
  | zero =>
    have e : v = u := by simpa using hj
    subst e
    rw [Addr.add_lit, Nat.zero_add, cell_of_row w x 0 _ _ _ h]
    rfl
  | succ j => simp at hj

set_option maxRecDepth 100000 in
set_option maxHeartbeats 16000000 in
theorem own_opens2 (h : Own w0 L w) {m : Nat} {vL vM vg : Value} {nb : Nat} {l lM : List (List UInt8)} {x : List UInt8} (k q q2 g : Nat) (hk : L[k]? = some (rT m vL vM ⟨true, nb⟩)) (hq : L[q]? = some (strsT vL l)) (hq2 : L[q2]? = some (strsT vM (lM ++ [x]))) (hg : L[g]? = some (strsT vg (l ++ [x]))) (hkq : k ≠ q) (hgk : g ≠ k) (hl : l.length + 1 ≤ 1048576) (hlM : lM.length ≤ 1048576) (hc : cntL (l ++ [x]) ≤ 1073741824) :
    Calls Try.prog 46 #[.pointer (some ⟨m, 0, none⟩), vg] w fun e w' => e = .returned (.bool true) ∧ ∃ v', Own w0 ((L.set q (strsT v' (l ++ [x]))).set k (rT m v' (.slice none 0 0) ⟨false, cntL (l ++ [x])⟩)) w' := by
  obtain ⟨c0, c1, c2, c3, f0, f1, f2, f3⟩ := h.rcells k hk
  obtain ⟨G, hG⟩ : ∃ G, G = l ++ [x] := ⟨_, rfl⟩
  have hGl : G.length = l.length + 1 := by rw [hG]; simp
  have hGne : ¬ G = l := fun e => by rw [e] at hGl; omega
  rw [← hG] at hg hc ⊢
  obtain ⟨ag, cg, rfl⟩ := strs_form (h.strs g hg).1
  obtain ⟨al, cl, rfl⟩ := strs_form (h.strs q hq).1
  obtain ⟨am, cm, rfl⟩ := strs_form (h.strs q2 hq2).1
  have hs1 := (h.strsAt g hg).1
  have hs2 := (h.strsAt q hq).1
  obtain ⟨mb, mo, rfl, hx⟩ := (h.strsAt q2 hq2).1 lM.length (by simp)
  have hxe : (lM ++ [x])[lM.length]'(by simp) = x := by simp
  rw [hxe] at hx
  have hMl : (lM ++ [x]).length = lM.length + 1 := by simp
  rw [hMl] at c1
  obtain ⟨xs, hxs⟩ : ∃ xs : ByteArray, (⟨x.toArray⟩ : ByteArray) = xs := ⟨_, rfl⟩
  unfold strV' at hx
  rw [hxs] at hx
  have Hk := Lib.hid hk
  have Hq := Lib.hid hq
  have Hq2 := Lib.hid hq2
  have Hg := Lib.hid hg
  have Hkq := Lib.hid hkq
  have Hs1 := Lib.hid hs1
  have Hs2 := Lib.hid hs2
  have Hgk := Lib.hid hgk
  have HG := Lib.hid hG
  have HGl := Lib.hid hGl
  have Hxs := Lib.hid hxs
  have HMl := Lib.hid hMl
  have Hc := Lib.hid hc
  rw [hMl] at hq2
  clear hk hq hq2 hg hkq hgk hs1 hs2 hG hGl hxs hMl hxe hc
  go_enter Try.func46, Try.ntmps46
  go_wp2_with fail
  refine (jsame_any ag al cg cl G l w Hs1.out Hs2.out (by rw [HGl.out]; omega) (by omega)).mono ?_
  rintro e w1 ⟨rfl, nn, rfl⟩
  rw [decide_eq_false hGne]
  have h1 := h.drewN nn
  obtain ⟨w2, hw2⟩ : ∃ w2, w2 = w.drewN nn := ⟨_, rfl⟩
  have hs3 : StrsAt w2 (some ⟨mb, mo, none⟩) (lM ++ [x]) := by rw [hw2]; exact (h.strsAt q2 Hq2.out).1
  have hx : w2.cell? ⟨mb, mo + lM.length, none⟩ = some (.string xs) := by rw [hw2]; exact hx
  rw [← hw2] at h1 ⊢
  clear hw2 c0 c1 c2 c3 f0 f1 f2 f3 hs3
  obtain ⟨d0, d1, d2, d3, e0, e1, e2, e3⟩ := h1.rcells k Hk.out
  rw [HMl.out] at d1
  have i0 : (0 : Int) ≤ lM.length := by omega
  have i1 : ¬ ((lM.length : Int) + 1 ≤ lM.length) := by omega
  have i2 : IntKind.i64.wrap (lM.length : Int) = lM.length := IntWalk.i64_in _ (by omega)
  go_upto_region 3 with fail
  have h3 := h1.drew
  have x3 : w2.drew.cell? ⟨mb, mo + lM.length, none⟩ = some (.string xs) := hx
  obtain ⟨w3, hw3⟩ : ∃ w3, w3 = w2.drew := ⟨_, rfl⟩
  rw [← hw3] at h3 x3
  refine wp_region_held_drew (S := fun w' => w'.cell? ⟨m, 0, none⟩ = some (.slice al l.length cl) ∧ w'.cell? ⟨m, 1, none⟩ = some (.slice (some ⟨mb, mo, none⟩) (lM.length + 1) cm) ∧ w'.cell? ⟨mb, mo + lM.length, none⟩ = some (.string xs)) (by kernel_rfl) ⟨d0, d1, hx⟩ (fun hHeld => ?_)
  rw [← hw3] at hHeld ⊢
  clear hw3 d0 d1 d2 d3 e0 e1 e2 e3 h1 hx
  refine wpAnyH_take (i := 0) (oi := ⟨some 29, _, _, _, _, _⟩) (v := (.slice ag G.length cg)) rfl (by kernel_rfl) (by kernel_rfl) (by kernel_rfl) (fun _ _ _ h => h) (.inl ⟨by rfl, fun w hw => by dsimp only at hw; go_simp⟩) hHeld ?_
  simp only [Act.put, List.setIfInBounds_toArray, List.set_cons_zero, List.set_cons_succ]
  refine wpAnyH_take (i := 2) (oi := ⟨some 31, _, _, _, _, _⟩) (v := (.pointer (some ⟨m, 0, none⟩))) rfl (by kernel_rfl) (by kernel_rfl) (by kernel_rfl) (fun _ _ _ h => h) (.inl ⟨by rfl, fun w hw => by dsimp only at hw; go_simp⟩) hHeld ?_
  simp only [Act.put, List.setIfInBounds_toArray, List.set_cons_zero, List.set_cons_succ]
  refine wpAnyH_take (i := 3) (oi := ⟨some 32, _, _, _, _, _⟩) (v := (.pointer (some ⟨m, 0, none⟩))) rfl (by kernel_rfl) (by kernel_rfl) (by kernel_rfl) (fun _ _ _ h => h) (.inl ⟨by rfl, fun w hw => by dsimp only at hw; go_simp⟩) hHeld ?_
  simp only [Act.put, List.setIfInBounds_toArray, List.set_cons_zero, List.set_cons_succ]
  refine wpAnyH_take (i := 4) (oi := ⟨some 33, _, _, _, _, _⟩) (v := (.pointer (some ⟨m, 0, none⟩))) rfl (by kernel_rfl) (by kernel_rfl) (by kernel_rfl) (fun _ _ _ h => h) (.inl ⟨by rfl, fun w hw => by dsimp only at hw; go_simp⟩) hHeld ?_
  simp only [Act.put, List.setIfInBounds_toArray, List.set_cons_zero, List.set_cons_succ]
  refine wpAnyH_take (i := 5) (oi := ⟨some 34, _, _, _, _, _⟩) (v := (.slice al l.length cl)) rfl (by kernel_rfl) (by kernel_rfl) (by kernel_rfl) (fun _ _ _ h => h) (.inl ⟨by rfl, fun w hw => by dsimp only at hw; go_simp⟩) hHeld ?_
  simp only [Act.put, List.setIfInBounds_toArray, List.set_cons_zero, List.set_cons_succ]
  refine wpAnyH_take (i := 7) (oi := ⟨some 36, _, _, _, _, _⟩) (v := (.pointer (some ⟨m, 0, none⟩))) rfl (by kernel_rfl) (by kernel_rfl) (by kernel_rfl) (fun _ _ _ h => h) (.inl ⟨by rfl, fun w hw => by dsimp only at hw; go_simp⟩) hHeld ?_
  simp only [Act.put, List.setIfInBounds_toArray, List.set_cons_zero, List.set_cons_succ]
  refine wpAnyH_take (i := 8) (oi := ⟨some 37, _, _, _, _, _⟩) (v := (.pointer (some ⟨m, 0, none⟩))) rfl (by kernel_rfl) (by kernel_rfl) (by kernel_rfl) (fun _ _ _ h => h) (.inl ⟨by rfl, fun w hw => by dsimp only at hw; go_simp⟩) hHeld ?_
  simp only [Act.put, List.setIfInBounds_toArray, List.set_cons_zero, List.set_cons_succ]
  refine wpAnyH_take (i := 9) (oi := ⟨some 38, _, _, _, _, _⟩) (v := (.pointer (some ⟨m, 1, none⟩))) rfl (by kernel_rfl) (by kernel_rfl) (by kernel_rfl) (fun _ _ _ h => h) (.inl ⟨by rfl, fun w hw => by dsimp only at hw; go_simp⟩) hHeld ?_
  simp only [Act.put, List.setIfInBounds_toArray, List.set_cons_zero, List.set_cons_succ]
  refine wpAnyH_take (i := 10) (oi := ⟨some 39, _, _, _, _, _⟩) (v := (.slice (some ⟨mb, mo, none⟩) (lM.length + 1) cm)) rfl (by kernel_rfl) (by kernel_rfl) (by kernel_rfl) (fun _ _ _ h => h) (.inl ⟨by rfl, fun w hw => by dsimp only at hw; go_simp⟩) hHeld ?_
  simp only [Act.put, List.setIfInBounds_toArray, List.set_cons_zero, List.set_cons_succ]
  refine wpAnyH_take (i := 11) (oi := ⟨some 40, _, _, _, _, _⟩) (v := (.pointer (some ⟨m, 0, none⟩))) rfl (by kernel_rfl) (by kernel_rfl) (by kernel_rfl) (fun _ _ _ h => h) (.inl ⟨by rfl, fun w hw => by dsimp only at hw; go_simp⟩) hHeld ?_
  simp only [Act.put, List.setIfInBounds_toArray, List.set_cons_zero, List.set_cons_succ]
  refine wpAnyH_take (i := 12) (oi := ⟨some 41, _, _, _, _, _⟩) (v := (.pointer (some ⟨m, 0, none⟩))) rfl (by kernel_rfl) (by kernel_rfl) (by kernel_rfl) (fun _ _ _ h => h) (.inl ⟨by rfl, fun w hw => by dsimp only at hw; go_simp⟩) hHeld ?_
  simp only [Act.put, List.setIfInBounds_toArray, List.set_cons_zero, List.set_cons_succ]
  refine wpAnyH_take (i := 13) (oi := ⟨some 42, _, _, _, _, _⟩) (v := (.pointer (some ⟨m, 1, none⟩))) rfl (by kernel_rfl) (by kernel_rfl) (by kernel_rfl) (fun _ _ _ h => h) (.inl ⟨by rfl, fun w hw => by dsimp only at hw; go_simp⟩) hHeld ?_
  simp only [Act.put, List.setIfInBounds_toArray, List.set_cons_zero, List.set_cons_succ]
  refine wpAnyH_take (i := 14) (oi := ⟨some 43, _, _, _, _, _⟩) (v := (.slice (some ⟨mb, mo, none⟩) (lM.length + 1) cm)) rfl (by kernel_rfl) (by kernel_rfl) (by kernel_rfl) (fun _ _ _ h => h) (.inl ⟨by rfl, fun w hw => by dsimp only at hw; go_simp⟩) hHeld ?_
  simp only [Act.put, List.setIfInBounds_toArray, List.set_cons_zero, List.set_cons_succ]
  refine wpAnyH_take (i := 15) (oi := ⟨some 44, _, _, _, _, _⟩) (v := (.int .i64 ((lM.length : Int) + 1))) rfl (by kernel_rfl) (by kernel_rfl) (by kernel_rfl) (fun _ _ _ h => h) (.inl ⟨by rfl, fun w hw => by dsimp only at hw; go_simp⟩) hHeld ?_
  simp only [Act.put, List.setIfInBounds_toArray, List.set_cons_zero, List.set_cons_succ]
  refine wpAnyH_take (i := 16) (oi := ⟨some 45, _, _, _, _, _⟩) (v := (.int .i64 (lM.length : Int))) rfl (by kernel_rfl) (by kernel_rfl) (by kernel_rfl) (fun _ _ _ h => h) (.inl ⟨by rfl, fun w hw => by dsimp only at hw; go_simp⟩) hHeld ?_
  simp only [Act.put, List.setIfInBounds_toArray, List.set_cons_zero, List.set_cons_succ]
  refine wpAnyH_take (i := 17) (oi := ⟨some 46, _, _, _, _, _⟩) (v := (.pointer (some ⟨mb, mo + lM.length, none⟩))) rfl (by kernel_rfl) (by kernel_rfl) (by kernel_rfl) (fun _ _ _ h => h) (.inl ⟨by rfl, fun w hw => by dsimp only at hw; go_simp⟩) hHeld ?_
  simp only [Act.put, List.setIfInBounds_toArray, List.set_cons_zero, List.set_cons_succ]
  refine wpAnyH_take (i := 18) (oi := ⟨some 47, _, _, _, _, _⟩) (v := (.string xs)) rfl (by kernel_rfl) (by kernel_rfl) (by kernel_rfl) (fun _ _ _ h => h) (.inl ⟨by rfl, fun w hw => by dsimp only at hw; go_simp⟩) hHeld ?_
  simp only [Act.put, List.setIfInBounds_toArray, List.set_cons_zero, List.set_cons_succ]
  have O0 := Own.start w3
  have hkeep : ∀ w', Frm (fun _ => False) w3 w' → w'.cell? ⟨m, 0, none⟩ = some (.slice al l.length cl) ∧ w'.cell? ⟨m, 1, none⟩ = some (.slice (some ⟨mb, mo, none⟩) (lM.length + 1) cm) ∧ w'.cell? ⟨mb, mo + lM.length, none⟩ = some (.string xs) := fun w' hf => ⟨hf.cell hHeld.1 (fun h => h), hf.cell hHeld.2.1 (fun h => h), hf.cell hHeld.2.2 (fun h => h)⟩
  have Keep := Lib.hid hkeep
  have H3 := Lib.hid h3
  have hb1 : (0 + l.length) * 16 ≤ 140737488355328 := by omega
  have hb2 : 0 + l.length ≤ maxLen := by unfold maxLen; omega
  have hb3 : (l.length + 1) * 16 ≤ 140737488355328 := by omega
  have hb4 : l.length + 1 ≤ maxLen := by unfold maxLen; omega
  have Hb := Lib.hid (And.intro hb1 (And.intro hb2 (And.intro hb3 hb4)))
  obtain ⟨it, hit, hz0, hz1, hz2⟩ := info_parts Try.info9
  have Hz := Lib.hid (And.intro hit (And.intro hz0 (And.intro hz1 hz2)))
  clear hkeep x3 h3 hb1 hb2 hb3 hb4 hit hz0 hz1 hz2
  refine wpAnyH_ready (rs := [1, 19]) (by kernel_rfl) (by simp) ?_
  refine AllReadyH.cons (o := ⟨some 30, _, _, _, _, _⟩) rfl (fun K hK => ?_) (AllReadyH.cons (o := ⟨some 48, _, _, _, _, _⟩) rfl (fun K hK => ?_) AllReadyH.nil)
  · go_simp
    have O1 := own_empty O0
    obtain ⟨eb, heb⟩ : ∃ b, b = w3.heap.size := ⟨_, rfl⟩
    obtain ⟨w4, hw4⟩ : ∃ w', w' = w3.alloc (.cells #[] 9) := ⟨_, rfl⟩
    rw [← heb, ← hw4] at O1 ⊢
    refine hK.out _ _ (Keep.out _ O1.frm) (fun hHeld => ?_)
    clear hK K hw4 heb
    refine wpAnyH_ready (rs := [6, 19]) (by kernel_rfl) (by simp) ?_
    refine AllReadyH.cons (o := ⟨some 35, _, _, _, _, _⟩) rfl (fun K hK => ?_) (AllReadyH.cons (o := ⟨some 48, _, _, _, _, _⟩) rfl (fun K hK => ?_) AllReadyH.nil)
    · obtain ⟨hrow, hturn⟩ := O1.strs 0 rfl
      refine step_append_strs rfl (.tmp 30) (.tmp 34) rfl (.slice (some ⟨eb, 0, none⟩) 0 0) (.slice al l.length cl) 0 [] l rfl rfl hrow ((H3.out.still O1.frm).strs q Hq.out).1 Hb.out.1 Hb.out.2.1 ?_
      intro v6 w5 hown hfr hnew
      rw [Nat.zero_add, List.nil_append] at hown
      have O2 := hturn v6 l w5 hown hfr hnew
      obtain ⟨a6, c6, rfl⟩ := strs_form hown
      clear hrow hturn hown hfr hnew
      go_simp
      refine hK.out _ _ (Keep.out _ O2.frm) (fun hHeld => ?_)
      clear hK K
      refine wpAnyH_ready (rs := [19]) (by kernel_rfl) (by simp) ?_
      refine AllReadyH.cons (o := ⟨some 48, _, _, _, _, _⟩) rfl (fun K hK => ?_) AllReadyH.nil
      go_simp
      have O3 := O2.box #[.string xs] 9
      obtain ⟨xb, hxb⟩ : ∃ b, b = w5.heap.size := ⟨_, rfl⟩
      obtain ⟨w6, hw6⟩ : ∃ w', w' = w5.alloc (.cells #[.string xs] 9) := ⟨_, rfl⟩
      rw [← hxb, ← hw6] at O3 ⊢
      refine hK.out _ _ (Keep.out _ O3.frm) (fun hHeld => ?_)
      clear hK K hw6 hxb
      refine wpAnyH_ready (rs := [20]) (by kernel_rfl) (by simp) ?_
      refine AllReadyH.cons (o := ⟨some 49, _, _, _, _, _⟩) rfl (fun K hK => ?_) AllReadyH.nil
      obtain ⟨hrow, hturn⟩ := O3.strs 0 rfl
      have hnews := cells_obj (O3.obj (x := xb) (cs := #[.string xs]) (t := 9) 1 rfl)
      refine step_append_one rfl (.tmp 35) (.tmp 48) 64 rfl 9 it (.string ⟨#[]⟩) 1 16 Try.underlying64 Hz.out.1 Hz.out.2.1 Hz.out.2.2.1 Hz.out.2.2.2 rfl (by decide) (.slice a6 l.length c6) l.length (l.map strV') rfl hrow ⟨xb, 0, none⟩ 1 [.string xs] rfl rfl hnews (by simp [Value.oneCell']) Hb.out.2.2.1 Hb.out.2.2.2 ?_
      intro g20 c20 w9 hown hfr hg
      have O9 := hturn (.slice (some ⟨g20, 0, none⟩) (l.length + 1) c20) (l ++ [x]) w9 (strs_snoc hown Hxs.out) hfr (blk_new hg)
      clear hrow hturn hnews hown hfr hg
      go_simp
      refine hK.out _ _ (Keep.out _ O9.frm) (fun hHeld => ?_)
      clear hK K
      have sa := ((H3.out.still O9.frm).strsAt g Hg.out).1
      have sb := (O9.strsAt 0 rfl).1
      have hs := jsame_any ag (some ⟨g20, 0, none⟩) cg c20 G (l ++ [x]) w9 sa sb (by rw [HGl.out]; omega) (by rw [List.length_append, List.length_singleton]; omega)
      rw [List.length_append, List.length_singleton, decide_eq_true HG.out] at hs
      have h1 := H3.out.still O9.frm
      have Hs := Lib.hid hs
      clear hs sa sb O9
      refine wpAnyH_ready (rs := [21]) (by kernel_rfl) (by simp) ?_
      refine AllReadyH.cons (o := ⟨some 50, _, _, _, _, _⟩) rfl (fun K hK => ?_) AllReadyH.nil
      go_simp
      refine Hs.out.mono ?_
      rintro e w10 ⟨rfl, n3, rfl⟩
      refine hK.out _ _ ⟨hHeld.1, hHeld.2.1, hHeld.2.2⟩ (fun hHeld => ?_)
      clear hK K
      refine wpAnyH_take (i := 22) (oi := ⟨some 5, _, _, _, _, _⟩) (v := (.bool true)) rfl (by kernel_rfl) (by kernel_rfl) (by kernel_rfl) (fun _ _ _ h => h) (.inl ⟨by rfl, fun w hw => by dsimp only at hw; go_simp⟩) hHeld ?_
      simp only [Act.put, List.setIfInBounds_toArray, List.set_cons_zero, List.set_cons_succ]
      refine wpAnyH_done (by kernel_rfl) ?_ _
      clear hHeld Keep Hs
      have h1 := h1.drewN n3
      obtain ⟨w1, hw1⟩ : ∃ w', w' = w9.drewN n3 := ⟨_, rfl⟩
      rw [← hw1] at h1 ⊢
      clear hw1
      have hGb : G.length ≤ 1048576 := by rw [HGl.out]; omega
      have h2 := own_empty h1
      obtain ⟨hrow, hturn⟩ := h2.strs L.length (get_end _ _)
      have hsrc := (h2.strs g (get_left _ Hg.out)).1
      have hb1 : (0 + G.length) * 16 ≤ 140737488355328 := by omega
      have hb2 : 0 + G.length ≤ maxLen := by unfold maxLen; omega
      have Hx := Lib.hid (And.intro hb1 (And.intro hb2 (And.intro hrow hsrc)))
      have Hturn := Lib.hid hturn
      clear hb1 hb2 hrow hsrc hturn h2
      obtain ⟨d0, d1, d2, d3, e0, e1, e2, e3⟩ := h1.rcells k Hk.out
      have hkl : k < L.length := (List.getElem?_eq_some_iff.1 Hk.out).1
      have hql : q < L.length := (List.getElem?_eq_some_iff.1 Hq.out).1
      have Hkl := Lib.hid hkl
      have Hql := Lib.hid hql
      clear hkl hql
      go_wp2_with (at_builtin; refine wpList_append_strs rfl (.tmp 52) (.tmp 53) rfl (.slice (some ⟨w1.heap.size, 0, none⟩) 0 0) (.slice ag G.length cg) 0 [] G rfl rfl Hx.out.2.2.1 Hx.out.2.2.2 Hx.out.1 Hx.out.2.1 ?_; intro v' w3 hown hfr hnew; rw [Nat.zero_add, List.nil_append] at hown; obtain ⟨an, cn, rfl⟩ := strs_form hown; have h3 := Hturn.out (.slice an G.length cn) G w3 hown hfr hnew; obtain ⟨x0, x1, x2, x3, y0, y1, y2, y3⟩ := h3.rcells (m := m) (vL := .slice al l.length cl) (vM := .slice (some ⟨mb, mo, none⟩) (lM ++ [x]).length cm) (J := ⟨true, nb⟩) k (by rw [List.getElem?_set_ne (Nat.ne_of_gt Hkl.out)]; exact get_left _ Hk.out); clear hown hfr hnew d0 d1 d2 d3 e0 e1 e2 e3)
      rw [List.set_append_right (h := Nat.le_refl _), Nat.sub_self] at h3
      have h4 := (((h3.store k (get_left _ Hk.out) 0 (.slice an G.length cn)).store k (List.getElem?_set_self (by simp; have := Hkl.out; omega)) 2 (.bool false)).store k (by rw [List.set_set]; exact List.getElem?_set_self (by simp; have := Hkl.out; omega)) 1 (.slice none 0 0)).store k (by rw [List.set_set, List.set_set]; exact List.getElem?_set_self (by simp; have := Hkl.out; omega)) 3 (.int .i64 0)
      rw [List.set_set, List.set_set, List.set_set] at h4
      have h5 : Own w0 ((L ++ [strsT (.slice an G.length cn) G]).set k (rT m (.slice an G.length cn) (.slice none 0 0) ⟨false, 0⟩)) _ := h4
      clear x0 x1 x2 x3 y0 y1 y2 y3 h3 h4
      have hcl := cntL_take_le G
      have Hcl := Lib.hid hcl
      clear hcl
      obtain ⟨W, hW⟩ : ∃ W, W = ((((w3.setCell ⟨m, 0, none⟩ (.slice an G.length cn)).setCell ⟨m, 2, none⟩ (.bool false)).setCell ⟨m, 1, none⟩ (.slice none 0 0)).setCell ⟨m, 3, none⟩ (.int .i64 0)) := ⟨_, rfl⟩
      rw [← hW] at h5 ⊢
      clear hW
      have hg2 : (L ++ [strsT (.slice an G.length cn) G])[g]? = some (strsT (.slice ag G.length cg) G) := get_left _ Hg.out
      have Hg2 := Lib.hid hg2
      clear hg2
      go_loopw [6] (fun i wr => ∃ t : Nat, i = .int .i64 t ∧ t ≤ G.length ∧ Own w0 ((L ++ [strsT (.slice an G.length cn) G]).set k (rT m (.slice an G.length cn) (.slice none 0 0) ⟨false, cntL (G.take t)⟩)) wr) (fun i _ => G.length - (intOf i).toNat)
      case atStart => exact ⟨0, rfl, Nat.zero_le _, h5⟩
      case round =>
        obtain ⟨t, rfl, ht, hO⟩ := hrel
        clear h5
        have Hlen := Lib.hid (show k < (L ++ [strsT (.slice an G.length cn) G]).length by have := Hkl.out; simp; omega)
        obtain ⟨x0, x1, x2, x3, y0, y1, y2, y3⟩ := hO.rcells (m := m) (vL := .slice an G.length cn) (vM := .slice none 0 0) (J := ⟨false, cntL (G.take t)⟩) k (List.getElem?_set_self Hlen.out)
        by_cases hlt : t < G.length
        · obtain ⟨b, o, rfl, cs⟩ := (hO.strsAt g (by rw [List.getElem?_set_ne Hgk.out.symm]; exact Hg2.out)).1 t hlt
          unfold strV' at cs
          obtain ⟨rs, hrs⟩ : ∃ rs : ByteArray, (⟨(G[t]).toArray⟩ : ByteArray) = rs := ⟨_, rfl⟩
          rw [hrs] at cs
          have hrl : rs.size = (G[t]).length := by rw [← hrs]; show (G[t]).toArray.size = _; simp
          have hct := cntL_take G t hlt
          have b1 : cntL (G.take t) ≤ 1073741824 := Nat.le_trans (Hcl.out t) Hc.out
          have b2 : rs.size ≤ 1073741824 := by have := Hcl.out (t + 1); have := Hc.out; omega
          have Hrl := Lib.hid hrl
          have Hct := Lib.hid hct
          clear hrs hrl hct
          have i0 : (0 : Int) ≤ t := by omega
          have i1 : (t : Int) < G.length := by omega
          generalize hcnt : cntL (G.take t) = cnt at hO x3 b1 Hct
          clear hcnt
          go_wp2_with fail
          go_region
          all_goals go_wp2_with fail
          all_goals
            refine ⟨⟨t + 1, by go_num, hlt, ?_⟩, by simp [intOf]; omega⟩
            have h8 := (hO.store k (List.getElem?_set_self Hlen.out) 3 (.int .i64 ((cnt : Int) + rs.size + 16))).drew
            rw [List.set_set] at h8
            rw [Hct.out, ← Hrl.out]
            exact h8
        · go_wp2_with fail
          go_ret
          have he : G.take t = G := List.take_of_length_le (by omega)
          rw [he] at hO
          have h6 := hO
          rw [List.set_append_left (h := Hkl.out)] at h6
          have h7 := h6.place q (by rw [List.length_set]; exact Hql.out)
          rw [List.set_comm _ _ Hkq.out] at h7
          exact ⟨rfl, _, h7⟩
    · go_simp
      have O2 := O1.box #[.string xs] 9
      obtain ⟨xb, hxb⟩ : ∃ b, b = w4.heap.size := ⟨_, rfl⟩
      obtain ⟨w5, hw5⟩ : ∃ w', w' = w4.alloc (.cells #[.string xs] 9) := ⟨_, rfl⟩
      rw [← hxb, ← hw5] at O2 ⊢
      refine hK.out _ _ (Keep.out _ O2.frm) (fun hHeld => ?_)
      clear hK K hw5 hxb
      refine wpAnyH_ready (rs := [6]) (by kernel_rfl) (by simp) ?_
      refine AllReadyH.cons (o := ⟨some 35, _, _, _, _, _⟩) rfl (fun K hK => ?_) AllReadyH.nil
      obtain ⟨hrow, hturn⟩ := O2.strs 0 rfl
      refine step_append_strs rfl (.tmp 30) (.tmp 34) rfl (.slice (some ⟨eb, 0, none⟩) 0 0) (.slice al l.length cl) 0 [] l rfl rfl hrow ((H3.out.still O2.frm).strs q Hq.out).1 Hb.out.1 Hb.out.2.1 ?_
      intro v6 w6 hown hfr hnew
      rw [Nat.zero_add, List.nil_append] at hown
      have O3 := hturn v6 l w6 hown hfr hnew
      obtain ⟨a6, c6, rfl⟩ := strs_form hown
      clear hrow hturn hown hfr hnew
      go_simp
      refine hK.out _ _ (Keep.out _ O3.frm) (fun hHeld => ?_)
      clear hK K
      refine wpAnyH_ready (rs := [20]) (by kernel_rfl) (by simp) ?_
      refine AllReadyH.cons (o := ⟨some 49, _, _, _, _, _⟩) rfl (fun K hK => ?_) AllReadyH.nil
      obtain ⟨hrow, hturn⟩ := O3.strs 0 rfl
      have hnews := cells_obj (O3.obj (x := xb) (cs := #[.string xs]) (t := 9) 1 rfl)
      refine step_append_one rfl (.tmp 35) (.tmp 48) 64 rfl 9 it (.string ⟨#[]⟩) 1 16 Try.underlying64 Hz.out.1 Hz.out.2.1 Hz.out.2.2.1 Hz.out.2.2.2 rfl (by decide) (.slice a6 l.length c6) l.length (l.map strV') rfl hrow ⟨xb, 0, none⟩ 1 [.string xs] rfl rfl hnews (by simp [Value.oneCell']) Hb.out.2.2.1 Hb.out.2.2.2 ?_
      intro g20 c20 w9 hown hfr hg
      have O9 := hturn (.slice (some ⟨g20, 0, none⟩) (l.length + 1) c20) (l ++ [x]) w9 (strs_snoc hown Hxs.out) hfr (blk_new hg)
      clear hrow hturn hnews hown hfr hg
      go_simp
      refine hK.out _ _ (Keep.out _ O9.frm) (fun hHeld => ?_)
      clear hK K
      have sa := ((H3.out.still O9.frm).strsAt g Hg.out).1
      have sb := (O9.strsAt 0 rfl).1
      have hs := jsame_any ag (some ⟨g20, 0, none⟩) cg c20 G (l ++ [x]) w9 sa sb (by rw [HGl.out]; omega) (by rw [List.length_append, List.length_singleton]; omega)
      rw [List.length_append, List.length_singleton, decide_eq_true HG.out] at hs
      have h1 := H3.out.still O9.frm
      have Hs := Lib.hid hs
      clear hs sa sb O9
      refine wpAnyH_ready (rs := [21]) (by kernel_rfl) (by simp) ?_
      refine AllReadyH.cons (o := ⟨some 50, _, _, _, _, _⟩) rfl (fun K hK => ?_) AllReadyH.nil
      go_simp
      refine Hs.out.mono ?_
      rintro e w10 ⟨rfl, n3, rfl⟩
      refine hK.out _ _ ⟨hHeld.1, hHeld.2.1, hHeld.2.2⟩ (fun hHeld => ?_)
      clear hK K
      refine wpAnyH_take (i := 22) (oi := ⟨some 5, _, _, _, _, _⟩) (v := (.bool true)) rfl (by kernel_rfl) (by kernel_rfl) (by kernel_rfl) (fun _ _ _ h => h) (.inl ⟨by rfl, fun w hw => by dsimp only at hw; go_simp⟩) hHeld ?_
      simp only [Act.put, List.setIfInBounds_toArray, List.set_cons_zero, List.set_cons_succ]
      refine wpAnyH_done (by kernel_rfl) ?_ _
      clear hHeld Keep Hs
      have h1 := h1.drewN n3
      obtain ⟨w1, hw1⟩ : ∃ w', w' = w9.drewN n3 := ⟨_, rfl⟩
      rw [← hw1] at h1 ⊢
      clear hw1
      have hGb : G.length ≤ 1048576 := by rw [HGl.out]; omega
      have h2 := own_empty h1
      obtain ⟨hrow, hturn⟩ := h2.strs L.length (get_end _ _)
      have hsrc := (h2.strs g (get_left _ Hg.out)).1
      have hb1 : (0 + G.length) * 16 ≤ 140737488355328 := by omega
      have hb2 : 0 + G.length ≤ maxLen := by unfold maxLen; omega
      have Hx := Lib.hid (And.intro hb1 (And.intro hb2 (And.intro hrow hsrc)))
      have Hturn := Lib.hid hturn
      clear hb1 hb2 hrow hsrc hturn h2
      obtain ⟨d0, d1, d2, d3, e0, e1, e2, e3⟩ := h1.rcells k Hk.out
      have hkl : k < L.length := (List.getElem?_eq_some_iff.1 Hk.out).1
      have hql : q < L.length := (List.getElem?_eq_some_iff.1 Hq.out).1
      have Hkl := Lib.hid hkl
      have Hql := Lib.hid hql
      clear hkl hql
      go_wp2_with (at_builtin; refine wpList_append_strs rfl (.tmp 52) (.tmp 53) rfl (.slice (some ⟨w1.heap.size, 0, none⟩) 0 0) (.slice ag G.length cg) 0 [] G rfl rfl Hx.out.2.2.1 Hx.out.2.2.2 Hx.out.1 Hx.out.2.1 ?_; intro v' w3 hown hfr hnew; rw [Nat.zero_add, List.nil_append] at hown; obtain ⟨an, cn, rfl⟩ := strs_form hown; have h3 := Hturn.out (.slice an G.length cn) G w3 hown hfr hnew; obtain ⟨x0, x1, x2, x3, y0, y1, y2, y3⟩ := h3.rcells (m := m) (vL := .slice al l.length cl) (vM := .slice (some ⟨mb, mo, none⟩) (lM ++ [x]).length cm) (J := ⟨true, nb⟩) k (by rw [List.getElem?_set_ne (Nat.ne_of_gt Hkl.out)]; exact get_left _ Hk.out); clear hown hfr hnew d0 d1 d2 d3 e0 e1 e2 e3)
      rw [List.set_append_right (h := Nat.le_refl _), Nat.sub_self] at h3
      have h4 := (((h3.store k (get_left _ Hk.out) 0 (.slice an G.length cn)).store k (List.getElem?_set_self (by simp; have := Hkl.out; omega)) 2 (.bool false)).store k (by rw [List.set_set]; exact List.getElem?_set_self (by simp; have := Hkl.out; omega)) 1 (.slice none 0 0)).store k (by rw [List.set_set, List.set_set]; exact List.getElem?_set_self (by simp; have := Hkl.out; omega)) 3 (.int .i64 0)
      rw [List.set_set, List.set_set, List.set_set] at h4
      have h5 : Own w0 ((L ++ [strsT (.slice an G.length cn) G]).set k (rT m (.slice an G.length cn) (.slice none 0 0) ⟨false, 0⟩)) _ := h4
      clear x0 x1 x2 x3 y0 y1 y2 y3 h3 h4
      have hcl := cntL_take_le G
      have Hcl := Lib.hid hcl
      clear hcl
      obtain ⟨W, hW⟩ : ∃ W, W = ((((w3.setCell ⟨m, 0, none⟩ (.slice an G.length cn)).setCell ⟨m, 2, none⟩ (.bool false)).setCell ⟨m, 1, none⟩ (.slice none 0 0)).setCell ⟨m, 3, none⟩ (.int .i64 0)) := ⟨_, rfl⟩
      rw [← hW] at h5 ⊢
      clear hW
      have hg2 : (L ++ [strsT (.slice an G.length cn) G])[g]? = some (strsT (.slice ag G.length cg) G) := get_left _ Hg.out
      have Hg2 := Lib.hid hg2
      clear hg2
      go_loopw [6] (fun i wr => ∃ t : Nat, i = .int .i64 t ∧ t ≤ G.length ∧ Own w0 ((L ++ [strsT (.slice an G.length cn) G]).set k (rT m (.slice an G.length cn) (.slice none 0 0) ⟨false, cntL (G.take t)⟩)) wr) (fun i _ => G.length - (intOf i).toNat)
      case atStart => exact ⟨0, rfl, Nat.zero_le _, h5⟩
      case round =>
        obtain ⟨t, rfl, ht, hO⟩ := hrel
        clear h5
        have Hlen := Lib.hid (show k < (L ++ [strsT (.slice an G.length cn) G]).length by have := Hkl.out; simp; omega)
        obtain ⟨x0, x1, x2, x3, y0, y1, y2, y3⟩ := hO.rcells (m := m) (vL := .slice an G.length cn) (vM := .slice none 0 0) (J := ⟨false, cntL (G.take t)⟩) k (List.getElem?_set_self Hlen.out)
        by_cases hlt : t < G.length
        · obtain ⟨b, o, rfl, cs⟩ := (hO.strsAt g (by rw [List.getElem?_set_ne Hgk.out.symm]; exact Hg2.out)).1 t hlt
          unfold strV' at cs
          obtain ⟨rs, hrs⟩ : ∃ rs : ByteArray, (⟨(G[t]).toArray⟩ : ByteArray) = rs := ⟨_, rfl⟩
          rw [hrs] at cs
          have hrl : rs.size = (G[t]).length := by rw [← hrs]; show (G[t]).toArray.size = _; simp
          have hct := cntL_take G t hlt
          have b1 : cntL (G.take t) ≤ 1073741824 := Nat.le_trans (Hcl.out t) Hc.out
          have b2 : rs.size ≤ 1073741824 := by have := Hcl.out (t + 1); have := Hc.out; omega
          have Hrl := Lib.hid hrl
          have Hct := Lib.hid hct
          clear hrs hrl hct
          have i0 : (0 : Int) ≤ t := by omega
          have i1 : (t : Int) < G.length := by omega
          generalize hcnt : cntL (G.take t) = cnt at hO x3 b1 Hct
          clear hcnt
          go_wp2_with fail
          go_region
          all_goals go_wp2_with fail
          all_goals
            refine ⟨⟨t + 1, by go_num, hlt, ?_⟩, by simp [intOf]; omega⟩
            have h8 := (hO.store k (List.getElem?_set_self Hlen.out) 3 (.int .i64 ((cnt : Int) + rs.size + 16))).drew
            rw [List.set_set] at h8
            rw [Hct.out, ← Hrl.out]
            exact h8
        · go_wp2_with fail
          go_ret
          have he : G.take t = G := List.take_of_length_le (by omega)
          rw [he] at hO
          have h6 := hO
          rw [List.set_append_left (h := Hkl.out)] at h6
          have h7 := h6.place q (by rw [List.length_set]; exact Hql.out)
          rw [List.set_comm _ _ Hkq.out] at h7
          exact ⟨rfl, _, h7⟩
  · go_simp
    have O1 := O0.box #[.string xs] 9
    obtain ⟨xb, hxb⟩ : ∃ b, b = w3.heap.size := ⟨_, rfl⟩
    obtain ⟨w4, hw4⟩ : ∃ w', w' = w3.alloc (.cells #[.string xs] 9) := ⟨_, rfl⟩
    rw [← hxb, ← hw4] at O1 ⊢
    refine hK.out _ _ (Keep.out _ O1.frm) (fun hHeld => ?_)
    clear hK K hw4 hxb
    refine wpAnyH_ready (rs := [1]) (by kernel_rfl) (by simp) ?_
    refine AllReadyH.cons (o := ⟨some 30, _, _, _, _, _⟩) rfl (fun K hK => ?_) AllReadyH.nil
    go_simp
    have O2 := own_empty O1
    obtain ⟨eb, heb⟩ : ∃ b, b = w4.heap.size := ⟨_, rfl⟩
    obtain ⟨w5, hw5⟩ : ∃ w', w' = w4.alloc (.cells #[] 9) := ⟨_, rfl⟩
    rw [← heb, ← hw5] at O2 ⊢
    refine hK.out _ _ (Keep.out _ O2.frm) (fun hHeld => ?_)
    clear hK K hw5 heb
    refine wpAnyH_ready (rs := [6]) (by kernel_rfl) (by simp) ?_
    refine AllReadyH.cons (o := ⟨some 35, _, _, _, _, _⟩) rfl (fun K hK => ?_) AllReadyH.nil
    obtain ⟨hrow, hturn⟩ := O2.strs 1 rfl
    refine step_append_strs rfl (.tmp 30) (.tmp 34) rfl (.slice (some ⟨eb, 0, none⟩) 0 0) (.slice al l.length cl) 0 [] l rfl rfl hrow ((H3.out.still O2.frm).strs q Hq.out).1 Hb.out.1 Hb.out.2.1 ?_
    intro v6 w6 hown hfr hnew
    rw [Nat.zero_add, List.nil_append] at hown
    have O3 := hturn v6 l w6 hown hfr hnew
    obtain ⟨a6, c6, rfl⟩ := strs_form hown
    clear hrow hturn hown hfr hnew
    go_simp
    refine hK.out _ _ (Keep.out _ O3.frm) (fun hHeld => ?_)
    clear hK K
    refine wpAnyH_ready (rs := [20]) (by kernel_rfl) (by simp) ?_
    refine AllReadyH.cons (o := ⟨some 49, _, _, _, _, _⟩) rfl (fun K hK => ?_) AllReadyH.nil
    obtain ⟨hrow, hturn⟩ := O3.strs 1 rfl
    have hnews := cells_obj (O3.obj (x := xb) (cs := #[.string xs]) (t := 9) 0 rfl)
    refine step_append_one rfl (.tmp 35) (.tmp 48) 64 rfl 9 it (.string ⟨#[]⟩) 1 16 Try.underlying64 Hz.out.1 Hz.out.2.1 Hz.out.2.2.1 Hz.out.2.2.2 rfl (by decide) (.slice a6 l.length c6) l.length (l.map strV') rfl hrow ⟨xb, 0, none⟩ 1 [.string xs] rfl rfl hnews (by simp [Value.oneCell']) Hb.out.2.2.1 Hb.out.2.2.2 ?_
    intro g20 c20 w9 hown hfr hg
    have O9 := hturn (.slice (some ⟨g20, 0, none⟩) (l.length + 1) c20) (l ++ [x]) w9 (strs_snoc hown Hxs.out) hfr (blk_new hg)
    clear hrow hturn hnews hown hfr hg
    go_simp
    refine hK.out _ _ (Keep.out _ O9.frm) (fun hHeld => ?_)
    clear hK K
    have sa := ((H3.out.still O9.frm).strsAt g Hg.out).1
    have sb := (O9.strsAt 1 rfl).1
    have hs := jsame_any ag (some ⟨g20, 0, none⟩) cg c20 G (l ++ [x]) w9 sa sb (by rw [HGl.out]; omega) (by rw [List.length_append, List.length_singleton]; omega)
    rw [List.length_append, List.length_singleton, decide_eq_true HG.out] at hs
    have h1 := H3.out.still O9.frm
    have Hs := Lib.hid hs
    clear hs sa sb O9
    refine wpAnyH_ready (rs := [21]) (by kernel_rfl) (by simp) ?_
    refine AllReadyH.cons (o := ⟨some 50, _, _, _, _, _⟩) rfl (fun K hK => ?_) AllReadyH.nil
    go_simp
    refine Hs.out.mono ?_
    rintro e w10 ⟨rfl, n3, rfl⟩
    refine hK.out _ _ ⟨hHeld.1, hHeld.2.1, hHeld.2.2⟩ (fun hHeld => ?_)
    clear hK K
    refine wpAnyH_take (i := 22) (oi := ⟨some 5, _, _, _, _, _⟩) (v := (.bool true)) rfl (by kernel_rfl) (by kernel_rfl) (by kernel_rfl) (fun _ _ _ h => h) (.inl ⟨by rfl, fun w hw => by dsimp only at hw; go_simp⟩) hHeld ?_
    simp only [Act.put, List.setIfInBounds_toArray, List.set_cons_zero, List.set_cons_succ]
    refine wpAnyH_done (by kernel_rfl) ?_ _
    clear hHeld Keep Hs
    have h1 := h1.drewN n3
    obtain ⟨w1, hw1⟩ : ∃ w', w' = w9.drewN n3 := ⟨_, rfl⟩
    rw [← hw1] at h1 ⊢
    clear hw1
    have hGb : G.length ≤ 1048576 := by rw [HGl.out]; omega
    have h2 := own_empty h1
    obtain ⟨hrow, hturn⟩ := h2.strs L.length (get_end _ _)
    have hsrc := (h2.strs g (get_left _ Hg.out)).1
    have hb1 : (0 + G.length) * 16 ≤ 140737488355328 := by omega
    have hb2 : 0 + G.length ≤ maxLen := by unfold maxLen; omega
    have Hx := Lib.hid (And.intro hb1 (And.intro hb2 (And.intro hrow hsrc)))
    have Hturn := Lib.hid hturn
    clear hb1 hb2 hrow hsrc hturn h2
    obtain ⟨d0, d1, d2, d3, e0, e1, e2, e3⟩ := h1.rcells k Hk.out
    have hkl : k < L.length := (List.getElem?_eq_some_iff.1 Hk.out).1
    have hql : q < L.length := (List.getElem?_eq_some_iff.1 Hq.out).1
    have Hkl := Lib.hid hkl
    have Hql := Lib.hid hql
    clear hkl hql
    go_wp2_with (at_builtin; refine wpList_append_strs rfl (.tmp 52) (.tmp 53) rfl (.slice (some ⟨w1.heap.size, 0, none⟩) 0 0) (.slice ag G.length cg) 0 [] G rfl rfl Hx.out.2.2.1 Hx.out.2.2.2 Hx.out.1 Hx.out.2.1 ?_; intro v' w3 hown hfr hnew; rw [Nat.zero_add, List.nil_append] at hown; obtain ⟨an, cn, rfl⟩ := strs_form hown; have h3 := Hturn.out (.slice an G.length cn) G w3 hown hfr hnew; obtain ⟨x0, x1, x2, x3, y0, y1, y2, y3⟩ := h3.rcells (m := m) (vL := .slice al l.length cl) (vM := .slice (some ⟨mb, mo, none⟩) (lM ++ [x]).length cm) (J := ⟨true, nb⟩) k (by rw [List.getElem?_set_ne (Nat.ne_of_gt Hkl.out)]; exact get_left _ Hk.out); clear hown hfr hnew d0 d1 d2 d3 e0 e1 e2 e3)
    rw [List.set_append_right (h := Nat.le_refl _), Nat.sub_self] at h3
    have h4 := (((h3.store k (get_left _ Hk.out) 0 (.slice an G.length cn)).store k (List.getElem?_set_self (by simp; have := Hkl.out; omega)) 2 (.bool false)).store k (by rw [List.set_set]; exact List.getElem?_set_self (by simp; have := Hkl.out; omega)) 1 (.slice none 0 0)).store k (by rw [List.set_set, List.set_set]; exact List.getElem?_set_self (by simp; have := Hkl.out; omega)) 3 (.int .i64 0)
    rw [List.set_set, List.set_set, List.set_set] at h4
    have h5 : Own w0 ((L ++ [strsT (.slice an G.length cn) G]).set k (rT m (.slice an G.length cn) (.slice none 0 0) ⟨false, 0⟩)) _ := h4
    clear x0 x1 x2 x3 y0 y1 y2 y3 h3 h4
    have hcl := cntL_take_le G
    have Hcl := Lib.hid hcl
    clear hcl
    obtain ⟨W, hW⟩ : ∃ W, W = ((((w3.setCell ⟨m, 0, none⟩ (.slice an G.length cn)).setCell ⟨m, 2, none⟩ (.bool false)).setCell ⟨m, 1, none⟩ (.slice none 0 0)).setCell ⟨m, 3, none⟩ (.int .i64 0)) := ⟨_, rfl⟩
    rw [← hW] at h5 ⊢
    clear hW
    have hg2 : (L ++ [strsT (.slice an G.length cn) G])[g]? = some (strsT (.slice ag G.length cg) G) := get_left _ Hg.out
    have Hg2 := Lib.hid hg2
    clear hg2
    go_loopw [6] (fun i wr => ∃ t : Nat, i = .int .i64 t ∧ t ≤ G.length ∧ Own w0 ((L ++ [strsT (.slice an G.length cn) G]).set k (rT m (.slice an G.length cn) (.slice none 0 0) ⟨false, cntL (G.take t)⟩)) wr) (fun i _ => G.length - (intOf i).toNat)
    case atStart => exact ⟨0, rfl, Nat.zero_le _, h5⟩
    case round =>
      obtain ⟨t, rfl, ht, hO⟩ := hrel
      clear h5
      have Hlen := Lib.hid (show k < (L ++ [strsT (.slice an G.length cn) G]).length by have := Hkl.out; simp; omega)
      obtain ⟨x0, x1, x2, x3, y0, y1, y2, y3⟩ := hO.rcells (m := m) (vL := .slice an G.length cn) (vM := .slice none 0 0) (J := ⟨false, cntL (G.take t)⟩) k (List.getElem?_set_self Hlen.out)
      by_cases hlt : t < G.length
      · obtain ⟨b, o, rfl, cs⟩ := (hO.strsAt g (by rw [List.getElem?_set_ne Hgk.out.symm]; exact Hg2.out)).1 t hlt
        unfold strV' at cs
        obtain ⟨rs, hrs⟩ : ∃ rs : ByteArray, (⟨(G[t]).toArray⟩ : ByteArray) = rs := ⟨_, rfl⟩
        rw [hrs] at cs
        have hrl : rs.size = (G[t]).length := by rw [← hrs]; show (G[t]).toArray.size = _; simp
        have hct := cntL_take G t hlt
        have b1 : cntL (G.take t) ≤ 1073741824 := Nat.le_trans (Hcl.out t) Hc.out
        have b2 : rs.size ≤ 1073741824 := by have := Hcl.out (t + 1); have := Hc.out; omega
        have Hrl := Lib.hid hrl
        have Hct := Lib.hid hct
        clear hrs hrl hct
        have i0 : (0 : Int) ≤ t := by omega
        have i1 : (t : Int) < G.length := by omega
        generalize hcnt : cntL (G.take t) = cnt at hO x3 b1 Hct
        clear hcnt
        go_wp2_with fail
        go_region
        all_goals go_wp2_with fail
        all_goals
          refine ⟨⟨t + 1, by go_num, hlt, ?_⟩, by simp [intOf]; omega⟩
          have h8 := (hO.store k (List.getElem?_set_self Hlen.out) 3 (.int .i64 ((cnt : Int) + rs.size + 16))).drew
          rw [List.set_set] at h8
          rw [Hct.out, ← Hrl.out]
          exact h8
      · go_wp2_with fail
        go_ret
        have he : G.take t = G := List.take_of_length_le (by omega)
        rw [he] at hO
        have h6 := hO
        rw [List.set_append_left (h := Hkl.out)] at h6
        have h7 := h6.place q (by rw [List.length_set]; exact Hql.out)
        rw [List.set_comm _ _ Hkq.out] at h7
        exact ⟨rfl, _, h7⟩
end
end Go.Proofs.Ytehdjajeonemoaa
