/-
  The reader of a pattern's written form: character, next. Conditions: the reader and its pieces lie in memory, its string is short.
-/
import Derived.Test.YtgnjakaamgeibaaDoorRdr
import Derived.BigRegion
import Derived.StillTailTactics
namespace Go.Proofs.YtgnjakaamgeibaaDoor
open Go.RowKit Go.Shelf
attribute [local go_sem] Oper.semAt_some

theorem set_flat : ∀ (ps : List Pc) (k : Nat) (t : ByteArray) (hk : k < ps.length), (ps.flatMap pcC).set (k * 4 + 3) (.string t) = (ps.set k { ps[k] with txt := t }).flatMap pcC
  | [], k, t, hk => absurd hk (Nat.not_lt_zero _)
  | p :: ps, 0, t, _ => by
    rw [List.flatMap_cons, List.set_cons_zero, List.flatMap_cons, List.set_append_left _ _ (by show 0 * 4 + 3 < 4; omega)]
    rfl
  | p :: ps, k + 1, t, hk => by
    rw [List.flatMap_cons, List.set_cons_succ, List.flatMap_cons, List.set_append_right _ _ (by show 4 ≤ _; omega)]
    have := set_flat ps k t (by simpa using hk)
    rw [show (k + 1) * 4 + 3 - (pcC p).length = k * 4 + 3 by show (k + 1) * 4 + 3 - 4 = _; omega, this]
    rfl
/-- The text of a piece is stored. -/
theorem Pcs.text {w : World} {g n cap : Nat} {ps : List Pc} (h : Pcs w (.slice (some ⟨g, 0, none⟩) n cap) ps) (hn : n = ps.length) (k : Nat) (hk : k < ps.length) (t : ByteArray) : Pcs (w.setCell ⟨g, k * 4 + 3, none⟩ (.string t)) (.slice (some ⟨g, 0, none⟩) n cap) (ps.set k { ps[k] with txt := t }) := by
  subst hn
  have := (World.ownsRow.stored (h : w.ownsRow 0 53 4 _ _ _) (k * 4 + 3) (.string t)).1
  unfold Pcs
  rw [List.length_set, ← set_flat ps k t hk]
  exact this

theorem Pcs.frozen {w : World} {g n cap : Nat} {ps : List Pc} (h : Pcs w (.slice (some ⟨g, 0, none⟩) n cap) ps) (j : Nat) : w.frozen? ⟨g, j, none⟩ = false := by
  obtain ⟨ao, cap', e⟩ := h.form
  injection e with _ e2 _
  subst e2
  exact World.ownsRow.frozenAt (h : w.ownsRow 0 53 4 _ _ _) j
/-- The reader with its pieces. -/
structure RdP (w : World) (x : Nat) (s : ByteArray) (i : Nat) (v : Value) (ps : List Pc) : Prop where
  rd : RdAt w x s i v
  pcs : Pcs w v ps
  ne : ¬ Blk v x
/-- What a step of the reader may change. -/
def RdF (x : Nat) (v : Value) : Nat → Prop := fun k => k = x ∨ Blk v k
def RdN (w : World) (v v' : Value) : Prop := ∀ k, Blk v' k → Blk v k ∨ w.heap.size ≤ k
theorem RdP.still {w w' : World} {x : Nat} {s : ByteArray} {i : Nat} {v : Value} {ps : List Pc} (h : RdP w x s i v ps) (hf : Frm (fun _ => False) w w') : RdP w' x s i v ps := ⟨h.rd.still hf, h.pcs.still hf, h.ne⟩
theorem RdP.by {w w' : World} {x : Nat} {s : ByteArray} {i j : Nat} {v : Value} {ps : List Pc} (h : RdP w x s i v ps) (hf : Frm (fun k => k = x) w w') (hr : RdAt w' x s j v) : RdP w' x s j v ps := ⟨hr, h.pcs.frm hf (fun _k hk e => h.ne (e ▸ hk)), h.ne⟩
def ChP (qs : List Pc) (w : World) (x : Nat) (s : ByteArray) (j : Nat) (v : Value) (e : Ending) (w' : World) : Prop :=
  e = .returned (.tuple #[]) ∧ ∃ v', RdP w' x s j v' qs ∧ Frm (RdF x v) w w' ∧ RdN w v v'
theorem ChP.trans {qs : List Pc} {w w1 w' : World} {x : Nat} {s : ByteArray} {j : Nat} {v v' : Value} {e : Ending} (h : ChP qs w1 x s j v' e w') (hf : Frm (RdF x v) w w1) (hn : RdN w v v') : ChP qs w x s j v e w' := by
  obtain ⟨rfl, v2, h1, h2, h3⟩ := h
  refine ⟨rfl, v2, h1, hf.trans' h2 ?_, fun k hk => ?_⟩
  · rintro k (rfl | hk)
    · exact .inl (.inl rfl)
    · exact (hn k hk).imp_left .inr
  · rcases h3 k hk with hk | hk
    · exact hn k hk
    · exact .inr (Nat.le_trans hf.size hk)

theorem addC_last {ps : List Pc} {c : UInt8} (h : 0 < ps.length) (hc : (ps[ps.length - 1]'(by omega)).cls = 0) : addC ps c = ps.set (ps.length - 1) { (ps[ps.length - 1]'(by omega)) with txt := (ps[ps.length - 1]'(by omega)).txt ++ ⟨#[c]⟩ } := by
  have hne : ps ≠ [] := by intro e; rw [e] at h; exact absurd h (by simp)
  have hl : ps.getLast? = some (ps[ps.length - 1]'(by omega)) := by rw [List.getLast?_eq_getElem?, List.getElem?_eq_getElem]
  unfold addC
  rw [hl]
  simp only [if_pos hc]
  apply List.ext_getElem?
  intro j
  by_cases e : j = ps.length - 1
  · subst e
    rw [List.getElem?_set_self (by omega), List.getElem?_append_right (by rw [List.length_dropLast]; exact Nat.le_refl _), List.length_dropLast, Nat.sub_self]
    rfl
  · rw [List.getElem?_set_ne (fun h => e h.symm)]
    by_cases hj : j < ps.length - 1
    · rw [List.getElem?_append_left (by rw [List.length_dropLast]; exact hj), List.getElem?_dropLast, if_pos hj]
    · rw [List.getElem?_append_right (by rw [List.length_dropLast]; omega), List.length_dropLast]
      rw [List.getElem?_eq_none (by simp; omega), List.getElem?_eq_none (by omega)]
theorem addC_fresh {ps : List Pc} {c : UInt8} (h : ps.length = 0 ∨ ∃ h : 0 < ps.length, (ps[ps.length - 1]'(by omega)).cls ≠ 0) : addC ps c = ps ++ [⟨0, 0, 0, ⟨#[c]⟩⟩] := by
  refine addC_new ps c ?_
  unfold litEnd
  rcases h with h | ⟨h, hc⟩
  · rw [List.eq_nil_of_length_eq_zero h]; rfl
  · have hl : ps.getLast? = some (ps[ps.length - 1]'(by omega)) := by rw [List.getLast?_eq_getElem?, List.getElem?_eq_getElem]
    rw [hl]
    simpa using hc

theorem ch_fin {w : World} {x g o : Nat} {s : ByteArray} {i : Nat} {v u : Value} {qs : List Pc} (hr : RdAt w x s i v) (hxg : x ≠ g) {n cap : Nat} (hv : v = .slice (some ⟨g, 0, none⟩) n cap) (hq : Pcs (w.setCell ⟨g, o, none⟩ u) v qs) :
    ChP qs w x s (i + 1) v (.returned (.tuple #[])) (((w.setCell ⟨g, o, none⟩ u).setCell ⟨x, 1, none⟩ (.int .i64 ((i : Int) + 1))).drew) := by
  subst hv
  have f1 : Frm (fun k => k = g) w (w.setCell ⟨g, o, none⟩ u) := (Frm.refl (fun k => k = g) w).setCell (p := ⟨g, o, none⟩) (.inl rfl) _
  have r1 : RdAt (w.setCell ⟨g, o, none⟩ u) x s i _ := f1.heap hr hxg
  have r2 := r1.next (i + 1)
  have f2 : Frm (fun k => k = x) (w.setCell ⟨g, o, none⟩ u) _ := frm_at (v := .int .i64 ((i + 1 : Nat) : Int)) (j := 1) (Frm.refl _ _)
  have p2 := hq.frm f2 (fun k hk e => hxg (by rw [← e]; exact Blk.some.1 hk))
  refine ⟨rfl, _, ⟨r2, p2, fun e => hxg (Blk.some.1 e)⟩, ?_, fun k hk => .inl hk⟩
  exact ((f1.mono fun k hk => .inr (Blk.some.2 hk)).trans (f2.mono fun k hk => .inl hk)).drew
theorem byte_at (s : ByteArray) (k : Nat) (h : k < s.size) (W : World) : (Instr.slice 9 (.string s) (some (.int .i64 (k : Int))) (some (.int .i64 ((k : Int) + 1))) none).run Tryd.prog W = .ok (.string ⟨#[s[k]]⟩) W := by
  have := run_slice_string (P := Tryd.prog) W 9 s .i64 .i64 k ((k : Int) + 1) Tryd.underlying9 (by omega) (by omega) (by omega)
  rw [this, Int.toNat_natCast, show ((k : Int) + 1).toNat = k + 1 by omega]
  have e : s.extract k (k + 1) = ⟨#[s[k]]⟩ := by
    apply ba_ext
    have hk : k < s.data.toList.length := by rw [size_list]; exact h
    rw [ext_toList, List.take_succ_eq_append_getElem hk, List.drop_append_of_le_length (by rw [List.length_take]; omega), List.drop_of_length_le (by rw [List.length_take]; omega)]
    rfl
  rw [e]
set_option maxRecDepth 100000 in
set_option maxHeartbeats 4000000 in
theorem character_lit {w : World} {x : Nat} {s : ByteArray} {i : Nat} {v : Value} {ps : List Pc} (h : RdP w x s i v ps) (hi : i < s.size) (hs : s.size ≤ 1000) (hl : ps.length ≤ 1000) (hp : 0 < ps.length) (hc : (ps[ps.length - 1]'(by omega)).cls = 0) (ht : (ps[ps.length - 1]'(by omega)).txt.size ≤ 1000) :
    Calls Tryd.prog 114 #[.pointer (some ⟨x, 0, none⟩)] w (ChP (addC ps s[i]) w x s (i + 1) v) := by
  obtain ⟨hr, hP, hne⟩ := h
  obtain ⟨n, hn⟩ : ∃ n, ps.length = n + 1 := ⟨ps.length - 1, by omega⟩
  have ha := addC_last (c := s[i]) hp hc
  obtain ⟨ao, cap, rfl⟩ := hP.form
  obtain ⟨g, rfl, ⟨d0, d1, d2, d3⟩, hg⟩ := hP.at' (ps.length - 1) (by omega)
  have hq := hP.text rfl (ps.length - 1) (by omega) ((ps[ps.length - 1]'(by omega)).txt ++ ⟨#[s[i]]⟩)
  rw [← ha] at hq
  rw [hc] at d0
  have hfz := World.ownsRow.frozenAt (hP : w.ownsRow 0 53 4 _ _ _) ((ps.length - 1) * 4 + 3)
  generalize ((ps[ps.length - 1]'(by omega)).txt) = t at *
  obtain ⟨c0, c1, c2, z1, z2⟩ := rd_cells hr
  have hxg : x ≠ g := fun e => hne (Blk.some.2 e)
  have hge : s.data.toList[i]'(by rw [size_list]; exact hi) = s[i] := rfl
  have Hq := Lib.hid hq
  have Hr := Lib.hid hr
  have HP := Lib.hid hP
  have Hne := Lib.hid hne
  clear hq hr hP hne ha hc d1 d2
  generalize hL : ps.length = L at *
  subst hn
  have HL := Lib.hid hL
  clear hL hp
  simp only [Nat.add_sub_cancel] at d0 d3 hfz Hq
  have hsl := byte_at s i hi
  have Hsi := Lib.hid hge
  clear hge
  generalize s[i] = c at *
  have hw : IntKind.i64.wrap ((i : Int) + 1) = (i : Int) + 1 := IntWalk.i64_in _ (by omega)
  have hn0 : (0 : Int) ≤ (n : Int) := by omega
  have hn1 : (n : Int) < (n : Int) + 1 := by omega
  have hcat : ¬ 9223372036854775807 < t.size + 1 := by omega
  go_enter Tryd.func114, Tryd.ntmps114
  go_upto_region 4 with fail
  go_still_tail 25, (by kernel_rfl)
  change wpList _ _ _ _ _ w.drew
  have hgx : g ≠ x := fun e => hxg e.symm
  go_wp2_with fail
  go_end0
  exact ch_fin Hr.out hxg rfl Hq.out

theorem Pcs.grow {w : World} {g cap : Nat} {ps : List Pc} {p : Pc} {n : Nat} (hn : n = ps.length + 1) (h : w.ownsRow 0 53 4 (.slice (some ⟨g, 0, none⟩) n cap) n (ps.flatMap pcC ++ pcC p)) : Pcs w (.slice (some ⟨g, 0, none⟩) n cap) (ps ++ [p]) := by
  subst hn
  unfold Pcs
  rw [List.length_append, List.flatMap_append]
  simpa using h
set_option maxRecDepth 100000 in
set_option maxHeartbeats 4000000 in
theorem character_new {w : World} {x : Nat} {s : ByteArray} {i : Nat} {v : Value} {ps : List Pc} (h : RdP w x s i v ps) (hi : i < s.size) (hs : s.size ≤ 1000) (hl : ps.length ≤ 1000) (hp : ps.length = 0 ∨ ∃ h : 0 < ps.length, (ps[ps.length - 1]'(by omega)).cls ≠ 0) :
    Calls Tryd.prog 114 #[.pointer (some ⟨x, 0, none⟩)] w (ChP (addC ps s[i]) w x s (i + 1) v) := by
  obtain ⟨i0, hi0, hz0, hz1, hz2⟩ := pc_info
  obtain ⟨hr, hP, hne⟩ := h
  have ha := addC_fresh (c := s[i]) hp
  obtain ⟨c0, c1, c2, z1, z2⟩ := rd_cells hr
  have hx : x < w.heap.size := (Array.getElem?_eq_some_iff.1 hr).1
  have hsl := byte_at s i hi
  have hge : s.data.toList[i]'(by rw [size_list]; exact hi) = s[i] := rfl
  have Hsi := Lib.hid hge
  clear hge
  have hw : IntKind.i64.wrap ((i : Int) + 1) = (i : Int) + 1 := IntWalk.i64_in _ (by omega)
  generalize s[i] = c at *
  have Ha := Lib.hid ha
  have Hr := Lib.hid hr
  have Hne := Lib.hid hne
  clear ha hr hne
  rcases hp with h0 | ⟨hpos, hcl⟩
  · obtain ⟨ao, cap, rfl⟩ := hP.form
    have hbA : (w.alloc (.cells #[.int .i64 0, .int .i64 0, .int .i64 0, .string ⟨#[]⟩] 53)).ownsRow 0 53 4 (.slice ao ps.length cap) ps.length (ps.flatMap pcC) := (hP.still ((Frm.refl _ _).alloc _))
    generalize hm : ps.length = m at *
    have HL := Lib.hid hm
    have hlt : ((m : Int) - 1 < 0) := by omega
    clear hm hP h0
    go_enter Tryd.func114, Tryd.ntmps114
    go_wp2_with (at_builtin; refine wpList_append_one rfl _ _ 46 rfl 53 i0 (.agg #[.int .i64 0, .int .i64 0, .int .i64 0, .string ⟨#[]⟩]) 4 40 Tryd.underlying46 hi0 hz0 hz1 hz2 rfl (by decide) _ _ _ rfl hbA ⟨w.heap.size, 0, none⟩ 1 [.int .i64 0, .int .i64 0, .int .i64 0, .string ⟨#[]⟩] rfl rfl (new_cells w #[.int .i64 0, .int .i64 0, .int .i64 0, .string ⟨#[]⟩] 53 w.heap.size rfl) (by intro u hu; simp at hu; rcases hu with rfl | rfl <;> rfl) (by omega) (by unfold maxLen; omega) ?_)
    intro g cap2 w2 hown hfrm hgg
    have hP2 : Pcs w2 (.slice (some ⟨g, 0, none⟩) (m + 1) cap2) (ps ++ [⟨0, 0, 0, ⟨#[]⟩⟩]) := Pcs.grow (by rw [HL.out]) hown
    have hr2 : RdAt w2 x s i (.slice ao m cap) := hfrm.heap (((Frm.refl (fun _ => False) w).alloc _).heap Hr.out (fun h => h)) Hne.out
    have hgx : g ≠ x := by
      intro hh
      rcases hgg with e | e
      · exact Hne.out (hh ▸ e)
      · try rw [World.size_alloc] at e
        omega
    have hfw : Frm (RdF x (.slice ao m cap)) w w2 := ((Frm.refl _ _).alloc _).trans (hfrm.mono fun k hk => .inr hk)
    have hrn : RdN w (.slice ao m cap) (.slice (some ⟨g, 0, none⟩) (m + 1) cap2) := fun k hk => by
      obtain rfl := Blk.some.1 hk
      rcases hgg with e | e
      · exact .inl e
      · try rw [World.size_alloc] at e
        exact .inr (by omega)
    have hr3 := hr2.put (.slice (some ⟨g, 0, none⟩) (m + 1) cap2)
    have hP3 := hP2.frm (frm_at (v := .slice (some ⟨g, 0, none⟩) (m + 1) cap2) (j := 2) (Frm.refl (fun k => k = x) w2)) (fun k hk e => hgx (by rw [← e]; exact (Blk.some.1 hk).symm))
    have hf3 := hfw.setCell (p := ⟨x, 2, none⟩) (.inl (.inl rfl)) (.slice (some ⟨g, 0, none⟩) (m + 1) cap2)
    obtain ⟨-, -, c2, -, z2⟩ := rd_cells hr2
    have Hown := Lib.hid hr2
    clear hown hfrm hgg hP2 hr2 hfw hbA c0 c1 z1
    go_upto_region 4 with fail
    obtain ⟨W3, hW3⟩ : ∃ W, W = w2.setCell ⟨x, 2, none⟩ (.slice (some ⟨g, 0, none⟩) (m + 1) cap2) := ⟨_, rfl⟩
    rw [← hW3] at hr3 hP3 hf3 ⊢
    clear hW3 c2 z2
    obtain ⟨c0, c1, c2, z1, z2⟩ := rd_cells hr3
    have hpl : (ps ++ [(⟨0, 0, 0, ⟨#[]⟩⟩ : Pc)]).length = m + 1 := by rw [List.length_append, HL.out]; rfl
    have hpg : (ps ++ [(⟨0, 0, 0, ⟨#[]⟩⟩ : Pc)])[m]'(by rw [hpl]; omega) = ⟨0, 0, 0, ⟨#[]⟩⟩ := by
      rw [List.getElem_append_right (by rw [HL.out]; exact Nat.le_refl _)]
      simp
    obtain ⟨g', hgg', ⟨d0, d1, d2, d3⟩, hg⟩ := hP3.at' m (by rw [hpl]; omega)
    rw [hpg] at d0 d3
    injection hgg' with hgg'
    injection hgg' with hgg' _ _
    subst hgg'
    have hfz := hP3.frozen (m * 4 + 3)
    have hq := hP3.text hpl.symm m (by rw [hpl]; omega) ⟨#[c]⟩
    rw [hpg] at hq
    have hset : (ps ++ [(⟨0, 0, 0, ⟨#[]⟩⟩ : Pc)]).set m ⟨0, 0, 0, ⟨#[c]⟩⟩ = addC ps c := by
      rw [Ha.out, List.set_append_right _ _ (by rw [HL.out]; exact Nat.le_refl _), HL.out, Nat.sub_self]
      rfl
    rw [hset] at hq
    have Hq := Lib.hid hq
    have Hr3 := Lib.hid hr3
    have Hf3 := Lib.hid hf3
    have Hrn := Lib.hid hrn
    have hxg : x ≠ g := fun e => hgx e.symm
    have hcat : ¬ 9223372036854775807 < (⟨#[]⟩ : ByteArray).size + 1 := by decide
    have hee : (⟨#[]⟩ : ByteArray) ++ ⟨#[c]⟩ = ⟨#[c]⟩ := by apply ba_ext; rw [ByteArray.data_append]; simp
    have hn0 : (0 : Int) ≤ (m : Int) := by omega
    have hn1 : (m : Int) < (m : Int) + 1 := by omega
    clear hpl hpg hP3 hr3 hf3 hq hset hrn d1 d2
    go_still_tail 25, (by kernel_rfl)
    change wpList _ _ _ _ _ W3.drew
    go_wp2_with fail
    go_end0
    exact (ch_fin Hr3.out hxg rfl Hq.out).trans Hf3.out Hrn.out
  · obtain ⟨n, hn⟩ : ∃ n, ps.length = n + 1 := ⟨ps.length - 1, by omega⟩
    obtain ⟨ao, cap, rfl⟩ := hP.form
    have hbA : (w.alloc (.cells #[.int .i64 0, .int .i64 0, .int .i64 0, .string ⟨#[]⟩] 53)).ownsRow 0 53 4 (.slice ao ps.length cap) ps.length (ps.flatMap pcC) := (hP.still ((Frm.refl _ _).alloc _))
    obtain ⟨g0, rfl, ⟨d0, -, -, -⟩, hg0⟩ := hP.at' (ps.length - 1) (by omega)
    have hcl2 : (ps[ps.length - 1].cls != 0) = true := by rw [bne_iff_ne]; exact hcl
    clear hcl
    generalize ps[ps.length - 1].cls = k at *
    generalize hL : ps.length = L at *
    subst hn
    have HL := Lib.hid hL
    clear hL hpos hP
    simp only [Nat.add_sub_cancel] at d0
    go_enter Tryd.func114, Tryd.ntmps114
    go_wp2_with (at_builtin; refine wpList_append_one rfl _ _ 46 rfl 53 i0 (.agg #[.int .i64 0, .int .i64 0, .int .i64 0, .string ⟨#[]⟩]) 4 40 Tryd.underlying46 hi0 hz0 hz1 hz2 rfl (by decide) _ _ _ rfl hbA ⟨w.heap.size, 0, none⟩ 1 [.int .i64 0, .int .i64 0, .int .i64 0, .string ⟨#[]⟩] rfl rfl (new_cells w #[.int .i64 0, .int .i64 0, .int .i64 0, .string ⟨#[]⟩] 53 w.heap.size rfl) (by intro u hu; simp at hu; rcases hu with rfl | rfl <;> rfl) (by omega) (by unfold maxLen; omega) ?_)
    clear d0 hg0
    intro g cap2 w2 hown hfrm hgg
    have hP2 : Pcs w2 (.slice (some ⟨g, 0, none⟩) ((n + 1) + 1) cap2) (ps ++ [⟨0, 0, 0, ⟨#[]⟩⟩]) := Pcs.grow (by rw [HL.out]) hown
    have hr2 : RdAt w2 x s i (.slice (some ⟨g0, 0, none⟩) (n + 1) cap) := hfrm.heap (((Frm.refl (fun _ => False) w).alloc _).heap Hr.out (fun h => h)) Hne.out
    have hgx : g ≠ x := by
      intro hh
      rcases hgg with e | e
      · exact Hne.out (hh ▸ e)
      · try rw [World.size_alloc] at e
        omega
    have hfw : Frm (RdF x (.slice (some ⟨g0, 0, none⟩) (n + 1) cap)) w w2 := ((Frm.refl _ _).alloc _).trans (hfrm.mono fun k hk => .inr hk)
    have hrn : RdN w (.slice (some ⟨g0, 0, none⟩) (n + 1) cap) (.slice (some ⟨g, 0, none⟩) ((n + 1) + 1) cap2) := fun k hk => by
      obtain rfl := Blk.some.1 hk
      rcases hgg with e | e
      · exact .inl e
      · try rw [World.size_alloc] at e
        exact .inr (by omega)
    have hr3 := hr2.put (.slice (some ⟨g, 0, none⟩) ((n + 1) + 1) cap2)
    have hP3 := hP2.frm (frm_at (v := .slice (some ⟨g, 0, none⟩) ((n + 1) + 1) cap2) (j := 2) (Frm.refl (fun k => k = x) w2)) (fun k hk e => hgx (by rw [← e]; exact (Blk.some.1 hk).symm))
    have hf3 := hfw.setCell (p := ⟨x, 2, none⟩) (.inl (.inl rfl)) (.slice (some ⟨g, 0, none⟩) ((n + 1) + 1) cap2)
    obtain ⟨-, -, c2, -, z2⟩ := rd_cells hr2
    have Hown := Lib.hid hr2
    clear hown hfrm hgg hP2 hr2 hfw hbA c0 c1 z1
    go_upto_region 4 with fail
    obtain ⟨W3, hW3⟩ : ∃ W, W = w2.setCell ⟨x, 2, none⟩ (.slice (some ⟨g, 0, none⟩) ((n + 1) + 1) cap2) := ⟨_, rfl⟩
    rw [← hW3] at hr3 hP3 hf3 ⊢
    clear hW3 c2 z2
    obtain ⟨c0, c1, c2, z1, z2⟩ := rd_cells hr3
    have hpl : (ps ++ [(⟨0, 0, 0, ⟨#[]⟩⟩ : Pc)]).length = (n + 1) + 1 := by rw [List.length_append, HL.out]; rfl
    have hpg : (ps ++ [(⟨0, 0, 0, ⟨#[]⟩⟩ : Pc)])[(n + 1)]'(by rw [hpl]; omega) = ⟨0, 0, 0, ⟨#[]⟩⟩ := by
      rw [List.getElem_append_right (by rw [HL.out]; exact Nat.le_refl _)]
      simp
    obtain ⟨g', hgg', ⟨d0, d1, d2, d3⟩, hg⟩ := hP3.at' (n + 1) (by rw [hpl]; omega)
    rw [hpg] at d0 d3
    injection hgg' with hgg'
    injection hgg' with hgg' _ _
    subst hgg'
    have hfz := hP3.frozen ((n + 1) * 4 + 3)
    have hq := hP3.text hpl.symm (n + 1) (by rw [hpl]; omega) ⟨#[c]⟩
    rw [hpg] at hq
    have hset : (ps ++ [(⟨0, 0, 0, ⟨#[]⟩⟩ : Pc)]).set (n + 1) ⟨0, 0, 0, ⟨#[c]⟩⟩ = addC ps c := by
      rw [Ha.out, List.set_append_right _ _ (by rw [HL.out]; exact Nat.le_refl _), HL.out, Nat.sub_self]
      rfl
    rw [hset] at hq
    have Hq := Lib.hid hq
    have Hr3 := Lib.hid hr3
    have Hf3 := Lib.hid hf3
    have Hrn := Lib.hid hrn
    have hxg : x ≠ g := fun e => hgx e.symm
    have hcat : ¬ 9223372036854775807 < (⟨#[]⟩ : ByteArray).size + 1 := by decide
    have hee : (⟨#[]⟩ : ByteArray) ++ ⟨#[c]⟩ = ⟨#[c]⟩ := by apply ba_ext; rw [ByteArray.data_append]; simp
    have hn0 : (0 : Int) ≤ ((n : Int) + 1) := by omega
    have hn1 : ((n : Int) + 1) < ((n : Int) + 1) + 1 := by omega
    clear hpl hpg hP3 hr3 hf3 hq hset hrn d1 d2
    go_still_tail 25, (by kernel_rfl)
    change wpList _ _ _ _ _ W3.drew
    go_wp2_with fail
    go_end0
    exact (ch_fin Hr3.out hxg rfl Hq.out).trans Hf3.out Hrn.out
end Go.Proofs.YtgnjakaamgeibaaDoor
