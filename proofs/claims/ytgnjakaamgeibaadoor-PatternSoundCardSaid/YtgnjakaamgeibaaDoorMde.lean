/-
  The reference's Made: a pattern that numbers determine. Conditions: the numbers lie in memory.
-/
import Derived.Test.YtgnjakaamgeibaaDoorMad
import Derived.Test.YtgnjakaamgeibaaDoorRdr3
namespace Go.Proofs.YtgnjakaamgeibaaDoor
open Go.RowKit Go.Shelf
attribute [local go_sem] Oper.semAt_some

/-- Numbers in memory. -/
def IntsAt (w : World) (ao : Option Addr) (q : List Int) : Prop := ∀ i, i < q.length → ∃ b o, ao = some ⟨b, o, none⟩ ∧ w.cell? ⟨b, o + i, none⟩ = some (.int .i64 (q.getD i 0)) ∧ -9223372036854775808 ≤ q.getD i 0 ∧ q.getD i 0 ≤ 9223372036854775807
theorem IntsAt.still {w w' : World} {ao : Option Addr} {q : List Int} (h : IntsAt w ao q) (hf : Frm (fun _ => False) w w') : IntsAt w' ao q := by
  intro i hi
  obtain ⟨b, o, hb, hc, hr⟩ := h i hi
  exact ⟨b, o, hb, hf.cell hc (fun h => h), hr⟩
theorem ints_three {w : World} {b o : Nat} {q : List Int} (h : IntsAt w (some ⟨b, o, none⟩) q) (i : Nat) (hi : i + 2 < q.length) :
    ∃ x y z r, q.drop i = x :: y :: z :: r ∧ r = q.drop (i + 3) ∧ w.cell? ⟨b, o + i, none⟩ = some (.int .i64 x) ∧ w.cell? ⟨b, o + (i + 1), none⟩ = some (.int .i64 y) ∧ w.cell? ⟨b, o + (i + 2), none⟩ = some (.int .i64 z) ∧ (-9223372036854775808 ≤ x ∧ x ≤ 9223372036854775807) ∧ (-9223372036854775808 ≤ y ∧ y ≤ 9223372036854775807) ∧ (-9223372036854775808 ≤ z ∧ z ≤ 9223372036854775807) := by
  have key : ∀ j (hj : j < q.length), w.cell? ⟨b, o + j, none⟩ = some (.int .i64 q[j]) ∧ -9223372036854775808 ≤ q[j] ∧ q[j] ≤ 9223372036854775807 := by
    intro j hj
    obtain ⟨b', o', e, hc, h1, h2⟩ := h j hj
    injection e with e
    injection e with e1 e2 _
    subst e1
    subst e2
    rw [List.getD_eq_getElem?_getD, List.getElem?_eq_getElem hj] at hc h1 h2
    exact ⟨hc, h1, h2⟩
  refine ⟨q[i], q[i + 1], q[i + 2], q.drop (i + 3), ?_, rfl, (key i (by omega)).1, (key (i + 1) (by omega)).1, (key (i + 2) hi).1, (key i (by omega)).2, (key (i + 1) (by omega)).2, (key (i + 2) hi).2⟩
  rw [List.drop_eq_getElem_cons (by omega), List.drop_eq_getElem_cons (by omega), List.drop_eq_getElem_cons (by omega)]

def mdC : Array Value := #[.string ⟨#[45]⟩, .string ⟨#[97]⟩, .string ⟨#[66, 55]⟩, .string ⟨#[43]⟩, .string ⟨#[92, 123]⟩, .string ⟨#[32]⟩, .string ⟨#[120, 32, 121]⟩]
theorem mdC_at (q : Nat) (h : q < 7) : mdC[q]? = some (.string (mdT q)) := by
  have : q = 0 ∨ q = 1 ∨ q = 2 ∨ q = 3 ∨ q = 4 ∨ q = 5 ∨ q = 6 := by omega
  rcases this with rfl | rfl | rfl | rfl | rfl | rfl | rfl <;> rfl
theorem addT_last {ps : List Pc} {t : ByteArray} (h : 0 < ps.length) (hc : (ps[ps.length - 1]'(by omega)).cls = 0) : addT ps t = ps.set (ps.length - 1) { (ps[ps.length - 1]'(by omega)) with txt := (ps[ps.length - 1]'(by omega)).txt ++ t } := by
  have hl : ps.getLast? = some (ps[ps.length - 1]'(by omega)) := by rw [List.getLast?_eq_getElem?, List.getElem?_eq_getElem]
  unfold addT
  rw [hl]
  simp only [if_pos hc]
  apply List.ext_getElem?
  intro j
  by_cases e : j = ps.length - 1
  · subst e
    rw [List.getElem?_set_self (by omega), List.getElem?_append_right (by rw [List.length_dropLast]; exact Nat.le_refl _), List.length_dropLast, Nat.sub_self]
    rfl
  · rw [List.getElem?_set_ne (fun h => e h.symm)]
    by_cases hj : j < ps.length - 1
    · rw [List.getElem?_append_left (by rw [List.length_dropLast]; exact hj), List.getElem?_dropLast]
      simp [hj]
    · rw [List.getElem?_eq_none (by simp; omega), List.getElem?_eq_none (by omega)]
theorem addT_fresh {ps : List Pc} {t : ByteArray} (h : ps.length = 0 ∨ ∃ h : 0 < ps.length, (ps[ps.length - 1]'(by omega)).cls ≠ 0) : addT ps t = ps ++ [⟨0, 0, 0, t⟩] := by
  unfold addT
  rcases h with h | ⟨h, hc⟩
  · rw [List.eq_nil_of_length_eq_zero h]; rfl
  · have hl : ps.getLast? = some (ps[ps.length - 1]'(by omega)) := by rw [List.getLast?_eq_getElem?, List.getElem?_eq_getElem]
    rw [hl]
    simp only [if_neg hc]
/-- The world while Made goes on. -/
structure MdW (w wr : World) (v : Value) (ps : List Pc) (j : Nat) : Prop where
  pcs : Pcs wr v ps
  new : ∀ k, Blk v k → w.heap.size ≤ k
  frm : Frm (fun _ => False) w wr
  ok : MdOk j ps

set_option maxRecDepth 100000 in
set_option maxHeartbeats 8000000 in
theorem made_any {ao : Option Addr} {n cap : Nat} {l : List Int} (w : World) (hI : IntsAt w ao l) (hn : l.length = n) (hb : n ≤ maxLen) :
    Calls Tryd.prog 33 #[.slice ao n cap] w fun e w' => ∃ v, e = .returned v ∧ Pcs w' v (madeL l) ∧ Frm (fun _ => False) w w' := by
  obtain ⟨i0, hi0, hz0, hz1, hz2⟩ := pc_info
  subst hn
  have hbn : l.length ≤ 9223372036854775807 := by unfold maxLen at hb; omega
  have HI := Lib.hid hI
  clear hI hb
  go_enter Tryd.func33, Tryd.ntmps33
  go_wp2_with fail
  go_loopw [3, 4] (fun v sk wr => ∃ (i j : Nat) (ps : List Pc), sk = .int .i64 i ∧ Hid (i = 3 * j) ∧ j ≤ 5 ∧ MdW w wr v ps j ∧ Hid (mdF (5 - j) ps (l.drop i) = madeL l)) (fun _ sk _ => 20 - (intOf sk).toNat)
  case atStart => exact ⟨0, 0, [], rfl, Lib.hid rfl, by omega, ⟨Pcs.nil _, fun k hk => absurd hk Blk.nil, Frm.refl _ _, ⟨Nat.le_refl _, fun p hp => by cases hp⟩⟩, by show _ = _; rfl⟩
  case round =>
    obtain ⟨i, j, ps, rfl, Hi, hj, hW, hm⟩ := hrel
    by_cases hlt : i + 2 < l.length ∧ i < 15
    · obtain ⟨h1, h15⟩ := hlt
      have hlt1 : (i : Int) + 2 < (l.length : Int) := by omega
      have hlt2 : (i : Int) < 15 := by omega
      obtain ⟨lb, lo, hao, -⟩ := HI.out 0 (by omega)
      subst hao
      obtain ⟨x, y, z, r, hd, hr, d0, d1, d2, bx, by', bz⟩ := ints_three (HI.out.still hW.frm) i h1
      have hm2 := hm.out
      rw [hd, show 5 - j = (5 - (j + 1)) + 1 by have := Hi.out; omega, mdF_step, hr] at hm2
      have hok := mdS_ok hW.ok x y z
      have hlen := hW.ok.len
      have hsz := fun p hp => (hW.ok.pc p hp).2
      have m11 := mod_any x 11
      have m7 := mod_any y 7
      have m3 := mod_any y 3
      have m4 := mod_any z 4
      have m9 := mod_any z 9
      have M11 := Lib.hid (fun W => m11 W (by decide) (by decide) bx.1 bx.2)
      have M7 := Lib.hid (fun W => m7 W (by decide) (by decide) by'.1 by'.2)
      have M3 := Lib.hid (fun W => m3 W (by decide) (by decide) by'.1 by'.2)
      have M4 := Lib.hid (fun W => m4 W (by decide) (by decide) bz.1 bz.2)
      have M9 := Lib.hid (fun W => m9 W (by decide) (by decide) bz.1 bz.2)
      have hx0 := Int.emod_nonneg x (b := 11) (by decide)
      have hx1 := Int.emod_lt_of_pos x (b := 11) (by decide)
      have Hm2 := Lib.hid hm2
      have Hok := Lib.hid hok
      clear m11 m7 m3 m4 m9 hm hm2 hok hd hr bx by' bz
      obtain ⟨ao2, cap2, rfl⟩ := hW.pcs.form
      have HW := Lib.hid hW
      clear hW
      by_cases h6 : 6 < x % 11
      · have hqs : mdS ps x y z = addT ps (mdT (y % 7)) := by unfold mdS; rw [if_pos h6]
        rw [hqs] at Hm2 Hok
        have hy0 := Int.emod_nonneg y (b := 7) (by decide)
        have hy1 := Int.emod_lt_of_pos y (b := 7) (by decide)
        obtain ⟨q, hq⟩ : ∃ q : Nat, y % 7 = (q : Int) := ⟨(y % 7).toNat, by omega⟩
        rw [hq] at M7 Hm2 Hok
        have hq7 : q < 7 := by omega
        have hq7' : (q : Int) < 7 := by omega
        have hA : (wr.alloc (.cells mdC 9)).cell? ⟨wr.heap.size, q, none⟩ = some (.string (mdT q)) := by rw [cell_of_row _ _ q _ _ _ (heap_alloc_new wr _)]; exact mdC_at q hq7
        have d1A : (wr.alloc (.cells mdC 9)).cell? ⟨lb, lo + (i + 1), none⟩ = some (.int .i64 y) := ((Frm.refl (fun _ => False) wr).alloc _).cell d1 (fun h => h)
        unfold mdC at hA d1A
        have hP1 := HW.out.pcs.still ((Frm.refl (fun _ => False) wr).alloc (.cells #[.string ⟨#[45]⟩, .string ⟨#[97]⟩, .string ⟨#[66, 55]⟩, .string ⟨#[43]⟩, .string ⟨#[92, 123]⟩, .string ⟨#[32]⟩, .string ⟨#[120, 32, 121]⟩] 9))
        have hF1 := HW.out.frm.alloc (.cells #[.string ⟨#[45]⟩, .string ⟨#[97]⟩, .string ⟨#[66, 55]⟩, .string ⟨#[43]⟩, .string ⟨#[92, 123]⟩, .string ⟨#[32]⟩, .string ⟨#[120, 32, 121]⟩] 9)
        have hmt := mdT_ok q
        generalize mdT q = t at *
        clear hy0 hy1 hqs hq
        go_wp2_with fail
        refine (M11.out _).mono ?_
        rintro e w9 ⟨rfl, rfl⟩
        go_wp2_with fail
        refine (M7.out _).mono ?_
        rintro e w9 ⟨rfl, rfl⟩
        have Hnew := Lib.hid HW.out.new
        have HF1 := Lib.hid hF1
        have HP1 := Lib.hid hP1
        clear hF1 hP1 d0 d1 d2
        go_upto_region 8 with fail
        obtain ⟨W1, hW1⟩ : ∃ W, W = wr.alloc (.cells #[.string ⟨#[45]⟩, .string ⟨#[97]⟩, .string ⟨#[66, 55]⟩, .string ⟨#[43]⟩, .string ⟨#[92, 123]⟩, .string ⟨#[32]⟩, .string ⟨#[120, 32, 121]⟩] 9) := ⟨_, rfl⟩
        rw [← hW1] at HF1 HP1 ⊢
        clear hW1 HW hA d1A M3 M4 M9 M11 M7
        by_cases h0 : ps.length = 0
        · have hqs := addT_fresh (ps := ps) (t := t) (.inl h0)
          have Hqs := Lib.hid hqs
          have hbA : (W1.alloc (.cells #[.int .i64 0, .int .i64 0, .int .i64 0, .string t] 53)).ownsRow 0 53 4 (.slice ao2 ps.length cap2) ps.length (ps.flatMap pcC) := HP1.out.still ((Frm.refl (fun _ => False) _).alloc _)
          generalize hm : ps.length = m at *
          have HL := Lib.hid hm
          have hno : ¬ ((0 : Int) < (m : Int)) := by omega
          clear hm h0 hqs
          go_wp2_with (at_builtin; refine wpList_append_one rfl _ _ 46 rfl 53 i0 (.agg #[.int .i64 0, .int .i64 0, .int .i64 0, .string ⟨#[]⟩]) 4 40 Tryd.underlying46 hi0 hz0 hz1 hz2 rfl (by decide) _ _ _ rfl hbA ⟨W1.heap.size, 0, none⟩ 1 [.int .i64 0, .int .i64 0, .int .i64 0, .string t] rfl rfl (new_cells W1 #[.int .i64 0, .int .i64 0, .int .i64 0, .string t] 53 W1.heap.size rfl) (by intro u hu; simp at hu; rcases hu with rfl | rfl | rfl | rfl <;> rfl) (by omega) (by unfold maxLen; omega) ?_)
          intro g cap3 w8 hown hfrm hgg
          have hP8 : Pcs w8 (.slice (some ⟨g, 0, none⟩) (m + 1) cap3) (ps ++ [⟨0, 0, 0, t⟩]) := Pcs.grow (by rw [HL.out]) hown
          have hW8 : MdW w w8 (.slice (some ⟨g, 0, none⟩) (m + 1) cap3) (addT ps t) (j + 1) := by
            rw [Hqs.out]
            refine ⟨hP8, fun k hk => ?_, ?_, by rw [← Hqs.out]; exact Hok.out⟩
            · obtain rfl := Blk.some.1 hk
              rcases hgg with e | e
              · exact Hnew.out _ e
              · try rw [World.size_alloc] at e
                have := HF1.out.size
                omega
            · exact (HF1.out.alloc _).trans' hfrm (fun k hk => .inr (by have := Hnew.out _ hk; omega))
          have H8 := Lib.hid hW8
          clear hown hfrm hgg hP8 hW8 hbA
          go_wp2_with fail
          go_roundw
          case rel => exact ⟨i + 3, j + 1, _, by go_num, Lib.hid (by have := Hi.out; omega), by have := Hi.out; omega, H8.out, Hm2⟩
          case measure => simp [intOf]; omega
        · obtain ⟨g0, hao, ⟨e0, -, -, e3⟩, hg0⟩ := HP1.out.at' (ps.length - 1) (by omega)
          subst hao
          obtain ⟨n, hn⟩ : ∃ n, ps.length = n + 1 := ⟨ps.length - 1, by omega⟩
          have hpos : 0 < ps.length := by omega
          by_cases hc : (ps[ps.length - 1]'(by omega)).cls = 0
          · have ha := addT_last (t := t) hpos hc
            have hqq := HP1.out.text rfl (ps.length - 1) (by omega) ((ps[ps.length - 1]'(by omega)).txt ++ t)
            rw [← ha] at hqq
            have hfz := HP1.out.frozen ((ps.length - 1) * 4 + 3)
            have hts := hsz _ (List.getElem_mem (show ps.length - 1 < ps.length by omega))
            rw [hc] at e0
            clear ha hc
            generalize ((ps[ps.length - 1]'(by omega)).txt) = u at *
            have hW8 : MdW w (W1.setCell ⟨g0, (ps.length - 1) * 4 + 3, none⟩ (.string (u ++ t))) (.slice (some ⟨g0, 0, none⟩) ps.length cap2) (addT ps t) (j + 1) :=
              ⟨hqq, Hnew.out, HF1.out.trans' ((Frm.refl (fun k => k = g0) W1).setCell (p := ⟨g0, (ps.length - 1) * 4 + 3, none⟩) (.inl rfl) _) (fun k hk => .inr (by subst hk; exact Hnew.out _ (Blk.some.2 rfl))), Hok.out⟩
            have H8 := Lib.hid hW8
            clear hqq hW8
            generalize hL : ps.length = L at *
            subst hn
            have HL := Lib.hid hL
            clear hL hpos h0
            simp only [Nat.add_sub_cancel] at e0 e3 hfz H8
            have hyes : (0 : Int) < ((n + 1 : Nat) : Int) := by omega
            have hn0 : (0 : Int) ≤ (n : Int) := by omega
            have hn1 : (n : Int) < (n : Int) + 1 := by omega
            have htt := hmt.2.2
            have hcat : ¬ 9223372036854775807 < u.size + t.size := by omega
            go_wp2_with fail
            go_roundw
            case rel => exact ⟨i + 3, j + 1, _, by go_num, Lib.hid (by have := Hi.out; omega), by have := Hi.out; omega, H8.out, Hm2⟩
            case measure => simp [intOf]; omega
          · have hqs := addT_fresh (ps := ps) (t := t) (.inr ⟨hpos, hc⟩)
            have Hqs := Lib.hid hqs
            have hcl2 : ((ps[ps.length - 1]'(by omega)).cls == 0) = false := by rw [beq_eq_false_iff_ne]; exact hc
            clear hc hqs e3
            generalize (ps[ps.length - 1]'(by omega)).cls = kc at *
            have hbA : (W1.alloc (.cells #[.int .i64 0, .int .i64 0, .int .i64 0, .string t] 53)).ownsRow 0 53 4 (.slice (some ⟨g0, 0, none⟩) ps.length cap2) ps.length (ps.flatMap pcC) := HP1.out.still ((Frm.refl (fun _ => False) _).alloc _)
            generalize hL : ps.length = L at *
            subst hn
            have HL := Lib.hid hL
            clear hL hpos h0
            simp only [Nat.add_sub_cancel] at e0
            have hyes : (0 : Int) < ((n + 1 : Nat) : Int) := by omega
            go_wp2_with (at_builtin; refine wpList_append_one rfl _ _ 46 rfl 53 i0 (.agg #[.int .i64 0, .int .i64 0, .int .i64 0, .string ⟨#[]⟩]) 4 40 Tryd.underlying46 hi0 hz0 hz1 hz2 rfl (by decide) _ _ _ rfl hbA ⟨W1.heap.size, 0, none⟩ 1 [.int .i64 0, .int .i64 0, .int .i64 0, .string t] rfl rfl (new_cells W1 #[.int .i64 0, .int .i64 0, .int .i64 0, .string t] 53 W1.heap.size rfl) (by intro u hu; simp at hu; rcases hu with rfl | rfl | rfl | rfl <;> rfl) (by omega) (by unfold maxLen; omega) ?_)
            intro g cap3 w8 hown hfrm hgg
            have hP8 : Pcs w8 (.slice (some ⟨g, 0, none⟩) ((n + 1) + 1) cap3) (ps ++ [⟨0, 0, 0, t⟩]) := Pcs.grow (by rw [HL.out]) hown
            have hW8 : MdW w w8 (.slice (some ⟨g, 0, none⟩) ((n + 1) + 1) cap3) (addT ps t) (j + 1) := by
              rw [Hqs.out]
              refine ⟨hP8, fun k hk => ?_, ?_, by rw [← Hqs.out]; exact Hok.out⟩
              · obtain rfl := Blk.some.1 hk
                rcases hgg with e | e
                · exact Hnew.out _ e
                · try rw [World.size_alloc] at e
                  have := HF1.out.size
                  omega
              · exact (HF1.out.alloc _).trans' hfrm (fun k hk => .inr (by have := Hnew.out _ hk; omega))
            have H8 := Lib.hid hW8
            clear hown hfrm hgg hP8 hW8 hbA
            go_wp2_with fail
            go_roundw
            case rel => exact ⟨i + 3, j + 1, _, by go_num, Lib.hid (by have := Hi.out; omega), by have := Hi.out; omega, H8.out, Hm2⟩
            case measure => simp [intOf]; omega
      · have hqs : mdS ps x y z = ps ++ [⟨x % 11 + 1, mdLo y z, mdHi y z, ⟨#[]⟩⟩] := by unfold mdS; rw [if_neg h6]
        have Hqs := Lib.hid hqs
        have hlo : mdLo y z = if z % 9 = 8 then 1 else y % 3 := rfl
        have hhi : mdHi y z = if z % 9 = 7 then 200 else if z % 9 = 8 then 1 else if y % 3 + z % 4 = 0 then 1 else y % 3 + z % 4 := rfl
        have y30 := Int.emod_nonneg y (b := 3) (by decide)
        have y31 := Int.emod_lt_of_pos y (b := 3) (by decide)
        have z40 := Int.emod_nonneg z (b := 4) (by decide)
        have z41 := Int.emod_lt_of_pos z (b := 4) (by decide)
        have z90 := Int.emod_nonneg z (b := 9) (by decide)
        have z91 := Int.emod_lt_of_pos z (b := 9) (by decide)
        generalize x % 11 = kx at *
        generalize y % 3 = ky at *
        generalize z % 4 = kz at *
        generalize z % 9 = k9 at *
        generalize mdLo y z = A at *
        generalize mdHi y z = B at *
        have hF1 := HW.out.frm.alloc (.cells #[.int .i64 (kx + 1), .int .i64 ky, .int .i64 0, .string ⟨#[]⟩] 53)
        have hP1 := HW.out.pcs.still ((Frm.refl (fun _ => False) wr).alloc (.cells #[.int .i64 (kx + 1), .int .i64 ky, .int .i64 0, .string ⟨#[]⟩] 53))
        have hN := heap_alloc_new wr (.cells #[.int .i64 (kx + 1), .int .i64 ky, .int .i64 0, .string ⟨#[]⟩] 53)
        have d2A : (wr.alloc (.cells #[.int .i64 (kx + 1), .int .i64 ky, .int .i64 0, .string ⟨#[]⟩] 53)).cell? ⟨lb, lo + (i + 2), none⟩ = some (.int .i64 z) := ((Frm.refl (fun _ => False) wr).alloc _).cell d2 (fun h => h)
        have Hnew := Lib.hid HW.out.new
        have hwb : w.heap.size ≤ wr.heap.size := HW.out.frm.size
        have hlb : lb < wr.heap.size := World.block_lt_of_cell? wr _ d2
        have hbx : ¬ Blk (.slice ao2 ps.length cap2) wr.heap.size := fun e => by
          have := (World.ownsRow.lt (HW.out.pcs : wr.ownsRow 0 53 4 _ _ _) _ e).2
          omega
        go_wp2_with fail
        refine (M11.out _).mono ?_
        rintro e w9 ⟨rfl, rfl⟩
        go_wp2_with fail
        refine (M3.out _).mono ?_
        rintro e w9 ⟨rfl, rfl⟩
        go_upto_region 12 with fail
        obtain ⟨W1, hW1⟩ : ∃ W, W = wr.alloc (.cells #[.int .i64 (kx + 1), .int .i64 ky, .int .i64 0, .string ⟨#[]⟩] 53) := ⟨_, rfl⟩
        obtain ⟨xb, hxb⟩ : ∃ b, b = wr.heap.size := ⟨_, rfl⟩
        rw [← hW1] at hF1 hP1 hN d2A ⊢
        rw [← hxb] at hN hwb hbx hlb ⊢
        clear hW1 hxb HW d0 d1 d2
        have b1 : W1.cell? ⟨xb, 1, none⟩ = some (.int .i64 ky) := by rw [cell_of_row W1 xb _ _ _ _ hN]; rfl
        have b2 : W1.cell? ⟨xb, 2, none⟩ = some (.int .i64 0) := by rw [cell_of_row W1 xb _ _ _ _ hN]; rfl
        have zb := fun k => frozen_of_row W1 xb k _ _ hN
        have zb2 := zb 2
        have hlx : lb ≠ xb := by omega
        have g0 : (0 : Int) ≤ (i : Int) + 2 := by omega
        have gw2 : IntKind.i64.wrap (ky + kz) = ky + kz := IntWalk.i64_in _ (by omega)
        have ht2 : ((i : Int) + 2).toNat = i + 2 := by omega
        have gw : IntKind.i64.wrap ((i : Int) + 2) = (i : Int) + 2 := IntWalk.i64_in _ (by omega)
        clear zb
        go_region_held3 (fun w' => w'.cell? ⟨xb, 1, none⟩ = some (.int .i64 ky) ∧ w'.cell? ⟨lb, lo + (i + 2), none⟩ = some (.int .i64 z)) (first | exact ⟨b1, d2A⟩ | exact ⟨by go_simp, by go_simp⟩)
          (first | (go_at_call 41; refine (M4.out _).mono ?_; rintro e w9 ⟨rfl, rfl⟩))
        have hN2 : (W1.setCell ⟨xb, 2, none⟩ (.int .i64 (ky + kz))).drew.heap[xb]? = some (.cells #[.int .i64 (kx + 1), .int .i64 ky, .int .i64 (ky + kz), .string ⟨#[]⟩] 53 (0, 0)) := heap_set hN _
        have hf2 : Frm (fun k => k = xb) W1 (W1.setCell ⟨xb, 2, none⟩ (.int .i64 (ky + kz))).drew := (frm_at (Frm.refl _ _)).drew
        have hP2 := hP1.frm hf2 (fun k hk e => hbx (e ▸ hk))
        have hF2 := hF1.trans' hf2 (fun k hk => .inr (by subst hk; exact hwb))
        have d2B := hf2.cell d2A hlx
        obtain ⟨W2, hW2⟩ : ∃ W, W = (W1.setCell ⟨xb, 2, none⟩ (.int .i64 (ky + kz))).drew := ⟨_, rfl⟩
        rw [← hW2] at hN2 hP2 hF2 d2B ⊢
        obtain ⟨m, hm⟩ : ∃ m, m = ky + kz := ⟨_, rfl⟩
        rw [← hm] at hN2 hhi
        clear hW2 hN b1 b2 zb2 hP1 hF1 hf2 d2A
        have b0 : W2.cell? ⟨xb, 0, none⟩ = some (.int .i64 (kx + 1)) := by rw [cell_of_row W2 xb _ _ _ _ hN2]; rfl
        have b1 : W2.cell? ⟨xb, 1, none⟩ = some (.int .i64 ky) := by rw [cell_of_row W2 xb _ _ _ _ hN2]; rfl
        have b2 : W2.cell? ⟨xb, 2, none⟩ = some (.int .i64 m) := by rw [cell_of_row W2 xb _ _ _ _ hN2]; rfl
        have b3 : W2.cell? ⟨xb, 3, none⟩ = some (.string ⟨#[]⟩) := by rw [cell_of_row W2 xb _ _ _ _ hN2]; rfl
        have z1 := frozen_of_row W2 xb 1 _ _ hN2
        have z2 := frozen_of_row W2 xb 2 _ _ hN2
        have hst : ∀ W3, Frm (fun k => k = xb) W2 W3 → Pcs W3 (.slice ao2 ps.length cap2) ps ∧ Frm (fun _ => False) w W3 := fun W3 f => ⟨hP2.frm f (fun k hk e => hbx (e ▸ hk)), hF2.trans' f (fun k hk => .inr (by subst hk; exact hwb))⟩
        have Hst := Lib.hid hst
        clear hst hP2 hF2 hN2
        clear hm
        generalize hL : ps.length = L at *
        have HL := Lib.hid hL
        clear hL
        by_cases h7 : k9 = 7
        · subst h7
          have hA : A = ky := by rw [hlo]; rfl
          have hB : B = 200 := by rw [hhi]; rfl
          subst hA
          subst hB
          have hW3 := Hst.out _ (frm_at (v := .int .i64 200) (j := 2) (Frm.refl (fun k => k = xb) W2))
          have HW3 := Lib.hid hW3
          have hbA : ((W2.setCell ⟨xb, 2, none⟩ (.int .i64 200)).alloc (.cells #[.int .i64 (kx + 1), .int .i64 A, .int .i64 200, .string ⟨#[]⟩] 53)).ownsRow 0 53 4 (.slice ao2 L cap2) L (ps.flatMap pcC) := by
            have := hW3.1.still ((Frm.refl (fun _ => False) _).alloc (.cells #[.int .i64 (kx + 1), .int .i64 A, .int .i64 200, .string ⟨#[]⟩] 53))
            unfold Pcs at this
            rw [HL.out] at this
            exact this
          clear hW3 hlo hhi
          go_wp2_with fail
          refine (M9.out _).mono ?_
          rintro e w9 ⟨rfl, rfl⟩
          go_wp2_with (at_builtin; refine wpList_append_one rfl _ _ 46 rfl 53 i0 (.agg #[.int .i64 0, .int .i64 0, .int .i64 0, .string ⟨#[]⟩]) 4 40 Tryd.underlying46 hi0 hz0 hz1 hz2 rfl (by decide) _ _ _ rfl hbA ⟨W2.heap.size, 0, none⟩ 1 [.int .i64 (kx + 1), .int .i64 A, .int .i64 200, .string ⟨#[]⟩] rfl rfl (new_cells (W2.setCell ⟨xb, 2, none⟩ (.int .i64 200)) #[.int .i64 (kx + 1), .int .i64 A, .int .i64 200, .string ⟨#[]⟩] 53 W2.heap.size (by simp)) (by intro u hu; simp at hu; rcases hu with rfl | rfl | rfl | rfl <;> rfl) (by omega) (by unfold maxLen; omega) ?_)
          intro g cap3 w8 hown hfrm hgg
          have hP8 : Pcs w8 (.slice (some ⟨g, 0, none⟩) (L + 1) cap3) (ps ++ [⟨kx + 1, A, 200, ⟨#[]⟩⟩]) := Pcs.grow (by rw [HL.out]) hown
          have hW8 : MdW w w8 (.slice (some ⟨g, 0, none⟩) (L + 1) cap3) (mdS ps x y z) (j + 1) := by
            rw [Hqs.out]
            refine ⟨hP8, fun k hk => ?_, ?_, by rw [← Hqs.out]; exact Hok.out⟩
            · obtain rfl := Blk.some.1 hk
              rcases hgg with e | e
              · exact Hnew.out _ e
              · try simp only [World.size_alloc, World.size_setCell] at e
                have := HW3.out.2.size
                try simp only [World.size_setCell] at this
                omega
            · exact (HW3.out.2.alloc _).trans' hfrm (fun k hk => .inr (by have := Hnew.out _ hk; omega))
          have H8 := Lib.hid hW8
          clear hown hfrm hgg hP8 hW8 hbA
          go_wp2_with fail
          go_roundw
          case rel => exact ⟨i + 3, j + 1, _, by go_num, Lib.hid (by have := Hi.out; omega), by have := Hi.out; omega, H8.out, Hm2⟩
          case measure => simp [intOf]; omega
        · by_cases h8 : k9 = 8
          · subst h8
            have hA : A = 1 := by rw [hlo]; rfl
            have hB : B = 1 := by rw [hhi]; rfl
            subst hA
            subst hB
            have hW3 := Hst.out _ (frm_at (v := .int .i64 1) (j := 2) (frm_at (v := .int .i64 1) (j := 1) (Frm.refl (fun k => k = xb) W2)))
            have HW3 := Lib.hid hW3
            have hbA : (((W2.setCell ⟨xb, 1, none⟩ (.int .i64 1)).setCell ⟨xb, 2, none⟩ (.int .i64 1)).alloc (.cells #[.int .i64 (kx + 1), .int .i64 1, .int .i64 1, .string ⟨#[]⟩] 53)).ownsRow 0 53 4 (.slice ao2 L cap2) L (ps.flatMap pcC) := by
              have := hW3.1.still ((Frm.refl (fun _ => False) _).alloc (.cells #[.int .i64 (kx + 1), .int .i64 1, .int .i64 1, .string ⟨#[]⟩] 53))
              unfold Pcs at this
              rw [HL.out] at this
              exact this
            clear hW3 hlo hhi
            go_wp2_with fail
            refine (M9.out _).mono ?_
            rintro e w9 ⟨rfl, rfl⟩
            go_wp2_with (at_builtin; refine wpList_append_one rfl _ _ 46 rfl 53 i0 (.agg #[.int .i64 0, .int .i64 0, .int .i64 0, .string ⟨#[]⟩]) 4 40 Tryd.underlying46 hi0 hz0 hz1 hz2 rfl (by decide) _ _ _ rfl hbA ⟨W2.heap.size, 0, none⟩ 1 [.int .i64 (kx + 1), .int .i64 1, .int .i64 1, .string ⟨#[]⟩] rfl rfl (new_cells ((W2.setCell ⟨xb, 1, none⟩ (.int .i64 1)).setCell ⟨xb, 2, none⟩ (.int .i64 1)) #[.int .i64 (kx + 1), .int .i64 1, .int .i64 1, .string ⟨#[]⟩] 53 W2.heap.size (by simp)) (by intro u hu; simp at hu; rcases hu with rfl | rfl | rfl | rfl <;> rfl) (by omega) (by unfold maxLen; omega) ?_)
            intro g cap3 w8 hown hfrm hgg
            have hP8 : Pcs w8 (.slice (some ⟨g, 0, none⟩) (L + 1) cap3) (ps ++ [⟨kx + 1, 1, 1, ⟨#[]⟩⟩]) := Pcs.grow (by rw [HL.out]) hown
            have hW8 : MdW w w8 (.slice (some ⟨g, 0, none⟩) (L + 1) cap3) (mdS ps x y z) (j + 1) := by
              rw [Hqs.out]
              refine ⟨hP8, fun k hk => ?_, ?_, by rw [← Hqs.out]; exact Hok.out⟩
              · obtain rfl := Blk.some.1 hk
                rcases hgg with e | e
                · exact Hnew.out _ e
                · try simp only [World.size_alloc, World.size_setCell] at e
                  have := HW3.out.2.size
                  try simp only [World.size_setCell] at this
                  omega
              · exact (HW3.out.2.alloc _).trans' hfrm (fun k hk => .inr (by have := Hnew.out _ hk; omega))
            have H8 := Lib.hid hW8
            clear hown hfrm hgg hP8 hW8 hbA
            go_wp2_with fail
            go_roundw
            case rel => exact ⟨i + 3, j + 1, _, by go_num, Lib.hid (by have := Hi.out; omega), by have := Hi.out; omega, H8.out, Hm2⟩
            case measure => simp [intOf]; omega
          · have t7 : (k9 == 7) = false := by rw [beq_eq_false_iff_ne]; exact h7
            have t8 : (k9 == 8) = false := by rw [beq_eq_false_iff_ne]; exact h8
            have hA : A = ky := by rw [hlo, if_neg h8]
            rw [if_neg h7, if_neg h8] at hhi
            subst hA
            by_cases h0 : m = 0
            · subst h0
              have hB : B = 1 := by rw [hhi]; rfl
              subst hB
              have hW3 := Hst.out _ (frm_at (v := .int .i64 1) (j := 2) (Frm.refl (fun k => k = xb) W2))
              have HW3 := Lib.hid hW3
              have hbA : ((W2.setCell ⟨xb, 2, none⟩ (.int .i64 1)).alloc (.cells #[.int .i64 (kx + 1), .int .i64 A, .int .i64 1, .string ⟨#[]⟩] 53)).ownsRow 0 53 4 (.slice ao2 L cap2) L (ps.flatMap pcC) := by
                have := hW3.1.still ((Frm.refl (fun _ => False) _).alloc (.cells #[.int .i64 (kx + 1), .int .i64 A, .int .i64 1, .string ⟨#[]⟩] 53))
                unfold Pcs at this
                rw [HL.out] at this
                exact this
              clear hW3 hlo hhi h7 h8
              go_wp2_with fail
              refine (M9.out _).mono ?_
              rintro e w9 ⟨rfl, rfl⟩
              go_wp2_with (at_builtin; refine wpList_append_one rfl _ _ 46 rfl 53 i0 (.agg #[.int .i64 0, .int .i64 0, .int .i64 0, .string ⟨#[]⟩]) 4 40 Tryd.underlying46 hi0 hz0 hz1 hz2 rfl (by decide) _ _ _ rfl hbA ⟨W2.heap.size, 0, none⟩ 1 [.int .i64 (kx + 1), .int .i64 A, .int .i64 1, .string ⟨#[]⟩] rfl rfl (new_cells (W2.setCell ⟨xb, 2, none⟩ (.int .i64 1)) #[.int .i64 (kx + 1), .int .i64 A, .int .i64 1, .string ⟨#[]⟩] 53 W2.heap.size (by simp)) (by intro u hu; simp at hu; rcases hu with rfl | rfl | rfl | rfl <;> rfl) (by omega) (by unfold maxLen; omega) ?_)
              intro g cap3 w8 hown hfrm hgg
              have hP8 : Pcs w8 (.slice (some ⟨g, 0, none⟩) (L + 1) cap3) (ps ++ [⟨kx + 1, A, 1, ⟨#[]⟩⟩]) := Pcs.grow (by rw [HL.out]) hown
              have hW8 : MdW w w8 (.slice (some ⟨g, 0, none⟩) (L + 1) cap3) (mdS ps x y z) (j + 1) := by
                rw [Hqs.out]
                refine ⟨hP8, fun k hk => ?_, ?_, by rw [← Hqs.out]; exact Hok.out⟩
                · obtain rfl := Blk.some.1 hk
                  rcases hgg with e | e
                  · exact Hnew.out _ e
                  · try simp only [World.size_alloc, World.size_setCell] at e
                    have := HW3.out.2.size
                    try simp only [World.size_setCell] at this
                    omega
                · exact (HW3.out.2.alloc _).trans' hfrm (fun k hk => .inr (by have := Hnew.out _ hk; omega))
              have H8 := Lib.hid hW8
              clear hown hfrm hgg hP8 hW8 hbA
              go_wp2_with fail
              go_roundw
              case rel => exact ⟨i + 3, j + 1, _, by go_num, Lib.hid (by have := Hi.out; omega), by have := Hi.out; omega, H8.out, Hm2⟩
              case measure => simp [intOf]; omega
            · have t0 : (m == 0) = false := by rw [beq_eq_false_iff_ne]; exact h0
              have hB : B = m := by rw [hhi, if_neg h0]
              subst hB
              have hW3 := Hst.out _ (Frm.refl (fun k => k = xb) W2)
              have HW3 := Lib.hid hW3
              have hbA : (W2.alloc (.cells #[.int .i64 (kx + 1), .int .i64 A, .int .i64 B, .string ⟨#[]⟩] 53)).ownsRow 0 53 4 (.slice ao2 L cap2) L (ps.flatMap pcC) := by
                have := hW3.1.still ((Frm.refl (fun _ => False) _).alloc (.cells #[.int .i64 (kx + 1), .int .i64 A, .int .i64 B, .string ⟨#[]⟩] 53))
                unfold Pcs at this
                rw [HL.out] at this
                exact this
              clear hW3 hlo hhi h7 h8 h0
              go_wp2_with fail
              refine (M9.out _).mono ?_
              rintro e w9 ⟨rfl, rfl⟩
              go_wp2_with (at_builtin; refine wpList_append_one rfl _ _ 46 rfl 53 i0 (.agg #[.int .i64 0, .int .i64 0, .int .i64 0, .string ⟨#[]⟩]) 4 40 Tryd.underlying46 hi0 hz0 hz1 hz2 rfl (by decide) _ _ _ rfl hbA ⟨W2.heap.size, 0, none⟩ 1 [.int .i64 (kx + 1), .int .i64 A, .int .i64 B, .string ⟨#[]⟩] rfl rfl (new_cells W2 #[.int .i64 (kx + 1), .int .i64 A, .int .i64 B, .string ⟨#[]⟩] 53 W2.heap.size rfl) (by intro u hu; simp at hu; rcases hu with rfl | rfl | rfl | rfl <;> rfl) (by omega) (by unfold maxLen; omega) ?_)
              intro g cap3 w8 hown hfrm hgg
              have hP8 : Pcs w8 (.slice (some ⟨g, 0, none⟩) (L + 1) cap3) (ps ++ [⟨kx + 1, A, B, ⟨#[]⟩⟩]) := Pcs.grow (by rw [HL.out]) hown
              have hW8 : MdW w w8 (.slice (some ⟨g, 0, none⟩) (L + 1) cap3) (mdS ps x y z) (j + 1) := by
                rw [Hqs.out]
                refine ⟨hP8, fun k hk => ?_, ?_, by rw [← Hqs.out]; exact Hok.out⟩
                · obtain rfl := Blk.some.1 hk
                  rcases hgg with e | e
                  · exact Hnew.out _ e
                  · try rw [World.size_alloc] at e
                    have := HW3.out.2.size
                    omega
                · exact (HW3.out.2.alloc _).trans' hfrm (fun k hk => .inr (by have := Hnew.out _ hk; omega))
              have H8 := Lib.hid hW8
              clear hown hfrm hgg hP8 hW8 hbA
              go_wp2_with fail
              go_roundw
              case rel => exact ⟨i + 3, j + 1, _, by go_num, Lib.hid (by have := Hi.out; omega), by have := Hi.out; omega, H8.out, Hm2⟩
              case measure => simp [intOf]; omega
    · have hres : ps = madeL l := by
        have hm2 := hm.out
        have hle : (l.drop i).length < 3 ∨ 5 - j = 0 := by
          rw [List.length_drop]
          have := Hi.out
          omega
        rcases hle with h | h
        · rw [mdF_end _ _ _ h] at hm2; exact hm2
        · rw [h] at hm2; exact hm2
      obtain ⟨ao2, cap2, rfl⟩ := hW.pcs.form
      have HW := Lib.hid hW
      have Hres := Lib.hid hres
      clear hW hm hres
      have hi15 : i ≤ 15 := by have := Hi.out; omega
      by_cases h1 : i + 2 < l.length
      · have h2 : ¬ ((i : Int) < 15) := by omega
        have h1' : (i : Int) + 2 < (l.length : Int) := by omega
        go_wp2_with fail
        go_ret
        exact ⟨_, rfl, by rw [← Hres.out]; exact HW.out.pcs, HW.out.frm⟩
      · have h1' : ¬ ((i : Int) + 2 < (l.length : Int)) := by omega
        go_wp2_with fail
        go_ret
        exact ⟨_, rfl, by rw [← Hres.out]; exact HW.out.pcs, HW.out.frm⟩
end Go.Proofs.YtgnjakaamgeibaaDoor
