/-
  The reader of a pattern's written form: next. Conditions: the reader and its pieces lie in memory, its string is short.
-/
import Derived.Test.YtgnjakaamgeibaaDoorRdr2
namespace Go.Proofs.YtgnjakaamgeibaaDoor
open Go.RowKit Go.Shelf
attribute [local go_sem] Oper.semAt_some

theorem character_any {w : World} {x : Nat} {s : ByteArray} {i : Nat} {v : Value} {ps : List Pc} (h : RdP w x s i v ps) (hi : i < s.size) (hs : s.size ≤ 1000) (hl : ps.length ≤ 1000) (ht : ∀ p ∈ ps, p.txt.size ≤ 1000) :
    Calls Tryd.prog 114 #[.pointer (some ⟨x, 0, none⟩)] w (ChP (addC ps s[i]) w x s (i + 1) v) := by
  by_cases h0 : 0 < ps.length
  · by_cases hc : (ps[ps.length - 1]'(by omega)).cls = 0
    · exact character_lit h hi hs hl h0 hc (ht _ (List.getElem_mem _))
    · exact character_new h hi hs hl (.inr ⟨h0, hc⟩)
  · exact character_new h hi hs hl (.inl (by omega))
theorem rdN_refl (w : World) (v : Value) : RdN w v v := fun _ h => .inl h
theorem frm_rd {w w' : World} {x : Nat} {v : Value} (h : Frm (fun k => k = x) w w') : Frm (RdF x v) w w' := h.mono fun _ h => .inl h
/-- A piece has been put behind the others. -/
theorem app_fin {w3 w2 : World} {o : Obj} {x g n cap : Nat} {s : ByteArray} {j : Nat} {v : Value} {qs : List Pc} (hr : RdAt w3 x s j v) (hne : ¬ Blk v x) (hq : Pcs w2 (.slice (some ⟨g, 0, none⟩) n cap) qs) (hfrm : Frm (Blk v) (w3.alloc o) w2) (hgg : Blk v g ∨ (w3.alloc o).heap.size ≤ g) :
    ChP qs w3 x s j v (.returned (.tuple #[])) (w2.setCell ⟨x, 2, none⟩ (.slice (some ⟨g, 0, none⟩) n cap)) := by
  have hx : x < w3.heap.size := (Array.getElem?_eq_some_iff.1 hr).1
  have hr2 : RdAt w2 x s j v := hfrm.heap (((Frm.refl (fun _ => False) w3).alloc o).heap hr (fun h => h)) hne
  have hgx : g ≠ x := by
    intro hh
    rcases hgg with e | e
    · exact hne (hh ▸ e)
    · rw [World.size_alloc] at e
      omega
  have hP3 := hq.frm (frm_at (v := .slice (some ⟨g, 0, none⟩) n cap) (j := 2) (Frm.refl (fun k => k = x) w2)) (fun k hk e => hgx (by rw [← e]; exact (Blk.some.1 hk).symm))
  refine ⟨rfl, _, ⟨hr2.put _, hP3, fun e => hgx (Blk.some.1 e).symm⟩, ?_, fun k hk => ?_⟩
  · exact (((Frm.refl (RdF x v) w3).alloc o).trans (hfrm.mono fun k hk => .inr hk)).setCell (p := ⟨x, 2, none⟩) (.inl (.inl rfl)) _
  · obtain rfl := Blk.some.1 hk
    rcases hgg with e | e
    · exact .inl e
    · rw [World.size_alloc] at e
      exact .inr (by omega)
/-- What next leaves. -/
def NxP (r : Sum (List UInt8 × Int) (List Pc × List UInt8)) (w : World) (x : Nat) (s : ByteArray) (v : Value) (e : Ending) (w' : World) : Prop :=
  match r with
  | .inl (t, k) => e = .panicked (fltC ((s.size - t.length : Nat) : Int) k) ∧ Frm (RdF x v) w w'
  | .inr (qs, t) => ChP qs w x s (s.size - t.length) v e w'
theorem nxP_bad {R : Sum (List UInt8 × Int) (List Pc × List UInt8)} {w w' : World} {x j : Nat} {k : Int} {s : ByteArray} {v : Value} {t : List UInt8} (h : R = .inl (t, k)) (ht : s.size - t.length = j) (hf : Frm (RdF x v) w w') : NxP R w x s v (.panicked (fltC (j : Int) k)) w' := by
  subst h
  subst ht
  exact ⟨rfl, hf⟩
theorem nxP_ok {R : Sum (List UInt8 × Int) (List Pc × List UInt8)} {w w' : World} {x j : Nat} {s : ByteArray} {v : Value} {qs : List Pc} {t : List UInt8} {e : Ending} (h : R = .inr (qs, t)) (ht : s.size - t.length = j) (hc : ChP qs w x s j v e w') : NxP R w x s v e w' := by
  subst h
  subst ht
  exact hc

set_option maxRecDepth 100000 in
set_option maxHeartbeats 4000000 in
theorem next_any {w : World} {x : Nat} {s : ByteArray} {i : Nat} {v : Value} {ps : List Pc} (h : RdP w x s i v ps) (hi : i < s.size) (hs : s.size ≤ 1000) (hl : ps.length ≤ 1000) (ht : ∀ p ∈ ps, p.txt.size ≤ 1000) :
    Calls Tryd.prog 82 #[.pointer (some ⟨x, 0, none⟩)] w (NxP (nxtR ps (s.data.toList.drop i)) w x s v) := by
  obtain ⟨R, hR⟩ : ∃ R, nxtR ps (s.data.toList.drop i) = R := ⟨_, rfl⟩
  rw [hR]
  have hd : s.data.toList.drop i = s[i] :: s.data.toList.drop (i + 1) := pk_drop hi
  have hpk : ∀ w1, Frm (fun _ => False) w w1 → Calls Tryd.prog 112 #[.pointer (some ⟨x, 0, none⟩)] w1 fun e w' => e = .returned (.int .u8 s[i].toNat) ∧ Frm (fun _ => False) w1 w' := fun w1 f => by
    have := peek_any (h.rd.still f) (by omega) hs
    rw [hd, pk_cons] at this
    exact this
  have hch : ∀ w1, Frm (fun _ => False) w w1 → Calls Tryd.prog 114 #[.pointer (some ⟨x, 0, none⟩)] w1 (ChP (addC ps s[i]) w1 x s (i + 1) v) := fun w1 f => character_any (h.still f) hi hs hl ht
  rw [hd] at hR
  generalize s[i] = c at *
  have Hpk := Lib.hid hpk
  have H := Lib.hid h
  clear hpk h hd
  by_cases h92 : c = 92
  · subst h92
    have n92 : (((92 : UInt8).toNat : Int) != 92) = false := rfl
    clear hch
    by_cases hlt : i + 1 < s.size
    · rw [pk_drop hlt, nxt_esc] at hR
      have hpk1 : ∀ w1, RdP w1 x s (i + 1) v ps → Calls Tryd.prog 112 #[.pointer (some ⟨x, 0, none⟩)] w1 fun e w' => e = .returned (.int .u8 s[i + 1].toNat) ∧ Frm (fun _ => False) w1 w' := fun w1 h => by
        have := peek_any h.rd (by omega) hs
        rw [pk_drop hlt, pk_cons] at this
        exact this
      have hch : ∀ w1, RdP w1 x s (i + 1) v ps → Calls Tryd.prog 114 #[.pointer (some ⟨x, 0, none⟩)] w1 (ChP (addC ps s[i + 1]) w1 x s (i + 1 + 1) v) := fun w1 h => character_any h hlt hs hl ht
      have hix := Tryd.strings_IndexByte ⟨#[100, 117, 108, 97, 115, 111, 46]⟩ s[i + 1].toNat
      rw [nat_u8, show (⟨#[100, 117, 108, 97, 115, 111, 46]⟩ : ByteArray).data.toList = lets from rfl] at hix
      have hlx := lets_index s[i + 1]
      have hge := Lib.indexByte_ge lets s[i + 1]
      have hle : Lib.indexByte lets s[i + 1] ≤ 6 := by
        have : clsOf s[i + 1] ≤ 7 := by unfold clsOf; (repeat' split) <;> omega
        omega
      generalize Lib.indexByte lets s[i + 1] = j at *
      generalize hdd : s[i + 1] = d at *
      have Hix := Lib.hid hix
      have Hpk1 := Lib.hid hpk1
      have Hch := Lib.hid hch
      have Hlx := Lib.hid hlx
      have Hd := Lib.hid hdd
      clear hix hpk1 hch hdd
      have t5 : (((i + 1 : Nat) : Int) == (s.size : Int)) = false := by rw [beq_eq_false_iff_ne]; omega
      have t6 : ((i : Int) + 1 == (s.size : Int)) = false := by rw [beq_eq_false_iff_ne]; omega
      by_cases hc0 : clsOf d = 0
      · rw [if_neg (by omega)] at hR
        have hj : ¬ (0 < j + 1) := by omega
        clear hlx
        cases hsp : spc d
        · rw [if_neg (by rw [hsp]; decide)] at hR
          have HR := Lib.hid hR
          have Hs := Lib.hid hsp
          clear hR hsp hc0 Hch
          go_enter Tryd.func82, Tryd.ntmps82
          go_wp2_with fail
          refine (Hpk.out _ (Frm.refl _ _)).mono ?_
          rintro e w1 ⟨rfl, f1⟩
          have Hf1 := Lib.hid f1
          clear f1
          have h1 := H.out.still Hf1.out
          obtain ⟨c0, c1, -, z1, -⟩ := rd_cells h1.rd
          have h2 : RdP _ x s (i + 1) v ps := h1.by (frm_at (v := .int .i64 ((i + 1 : Nat) : Int)) (j := 1) (Frm.refl (fun k => k = x) w1)) (h1.rd.next (i + 1))
          have hf2 := frm_at (v := .int .i64 ((i + 1 : Nat) : Int)) (j := 1) (frm_no (x := x) Hf1.out)
          go_upto_region 5 with fail
          obtain ⟨W2, hW2⟩ : ∃ W, W = w1.setCell ⟨x, 1, none⟩ (.int .i64 ((i : Int) + 1)) := ⟨_, rfl⟩
          have hz : (((i + 1 : Nat) : Int)) = (i : Int) + 1 := by omega
          rw [hz] at h2 hf2
          rw [← hW2] at h2 hf2 ⊢
          clear c0 c1 z1 h1 hW2 hz
          obtain ⟨c0, c1, -, z1, -⟩ := rd_cells h2.rd
          have H2 := Lib.hid h2
          have Hf2 := Lib.hid hf2
          clear h2 hf2
          have t5' : (((i + 1 : Nat) : Int)) = (i : Int) + 1 := by omega
          rw [t5'] at c1
          clear t5'
          go_quiet (fail)
          go_wp2_with fail
          refine (Hpk1.out _ (H2.out.still ((Frm.refl (fun _ => False) W2).drewN _))).mono ?_
          rintro e w3 ⟨rfl, f3⟩
          have Hg3 := Lib.hid (Frm.trans ((Frm.refl (fun _ => False) W2).drewN _) f3)
          clear f3
          go_wp2_with fail
          refine (Hix.out _).mono ?_
          rintro e w9 ⟨rfl, rfl⟩
          go_wp2_with fail
          refine (Hpk1.out _ (H2.out.still Hg3.out)).mono ?_
          rintro e w4 ⟨rfl, f4⟩
          have Hg4 := Lib.hid (Frm.trans Hg3.out f4)
          clear f4
          go_wp2_with fail
          refine (special_any d _).mono ?_
          rintro e w9 ⟨rfl, rfl⟩
          rw [Hs.out]
          go_wp2_with fail
          have h5 := H2.out.still Hg4.out
          refine (fail_any h5.rd).mono ?_
          rintro e w6 ⟨rfl, rfl⟩
          exact ⟨rfl, nxP_bad HR.out.symm (by rw [List.length_cons, List.length_drop, size_list]; omega) (frm_rd (Hf2.out.trans (frm_no Hg4.out)))⟩
        · rw [if_pos hsp] at hR
          have HR := Lib.hid hR
          have Hs := Lib.hid hsp
          clear hR hsp hc0
          go_enter Tryd.func82, Tryd.ntmps82
          go_wp2_with fail
          refine (Hpk.out _ (Frm.refl _ _)).mono ?_
          rintro e w1 ⟨rfl, f1⟩
          have Hf1 := Lib.hid f1
          clear f1
          have h1 := H.out.still Hf1.out
          obtain ⟨c0, c1, -, z1, -⟩ := rd_cells h1.rd
          have h2 : RdP _ x s (i + 1) v ps := h1.by (frm_at (v := .int .i64 ((i + 1 : Nat) : Int)) (j := 1) (Frm.refl (fun k => k = x) w1)) (h1.rd.next (i + 1))
          have hf2 := frm_at (v := .int .i64 ((i + 1 : Nat) : Int)) (j := 1) (frm_no (x := x) Hf1.out)
          go_upto_region 5 with fail
          obtain ⟨W2, hW2⟩ : ∃ W, W = w1.setCell ⟨x, 1, none⟩ (.int .i64 ((i : Int) + 1)) := ⟨_, rfl⟩
          have hz : (((i + 1 : Nat) : Int)) = (i : Int) + 1 := by omega
          rw [hz] at h2 hf2
          rw [← hW2] at h2 hf2 ⊢
          clear c0 c1 z1 h1 hW2 hz
          obtain ⟨c0, c1, -, z1, -⟩ := rd_cells h2.rd
          have H2 := Lib.hid h2
          have Hf2 := Lib.hid hf2
          clear h2 hf2
          have t5' : (((i + 1 : Nat) : Int)) = (i : Int) + 1 := by omega
          rw [t5'] at c1
          clear t5'
          go_quiet (fail)
          go_wp2_with fail
          refine (Hpk1.out _ (H2.out.still ((Frm.refl (fun _ => False) W2).drewN _))).mono ?_
          rintro e w3 ⟨rfl, f3⟩
          have Hg3 := Lib.hid (Frm.trans ((Frm.refl (fun _ => False) W2).drewN _) f3)
          clear f3
          go_wp2_with fail
          refine (Hix.out _).mono ?_
          rintro e w9 ⟨rfl, rfl⟩
          go_wp2_with fail
          refine (Hpk1.out _ (H2.out.still Hg3.out)).mono ?_
          rintro e w4 ⟨rfl, f4⟩
          have Hg4 := Lib.hid (Frm.trans Hg3.out f4)
          clear f4
          go_wp2_with fail
          refine (special_any d _).mono ?_
          rintro e w9 ⟨rfl, rfl⟩
          rw [Hs.out]
          go_wp2_with fail
          refine (Hch.out _ (H2.out.still Hg4.out)).mono ?_
          rintro e w5 h5
          obtain ⟨rfl, h5⟩ := h5
          have H5 := Lib.hid h5
          clear h5
          go_wp2_with fail
          go_end0
          exact nxP_ok HR.out.symm (len_drop (j := i + 1 + 1) (by omega)) (ChP.trans ⟨rfl, H5.out⟩ (frm_rd (Hf2.out.trans (frm_no Hg4.out))) (rdN_refl _ _))
      · rw [if_pos hc0] at hR
        have hj : 0 < j + 1 := by omega
        have hj1 : j + 1 = (clsOf d : Int) := hlx
        have HJ := Lib.hid hj1
        clear hlx hj1 hc0 Hch
        have hcr : ∀ w1, RdP w1 x s (i + 1 + 1) v ps → Calls Tryd.prog 116 #[.pointer (some ⟨x, 0, none⟩)] w1 (BrP (cntR (s.data.toList.drop (i + 1 + 1))) w1 x s v) := fun w1 h => count_read h.rd (by omega) hs
        cases hct : cntR (s.data.toList.drop (i + 1 + 1)) with
        | inl tk =>
          rw [hct] at hR hcr
          have HR := Lib.hid hR
          have Hcr := Lib.hid hcr
          clear hR hcr hct
          obtain ⟨t, k⟩ := tk
          go_enter Tryd.func82, Tryd.ntmps82
          go_wp2_with fail
          refine (Hpk.out _ (Frm.refl _ _)).mono ?_
          rintro e w1 ⟨rfl, f1⟩
          have Hf1 := Lib.hid f1
          clear f1
          have h1 := H.out.still Hf1.out
          obtain ⟨c0, c1, -, z1, -⟩ := rd_cells h1.rd
          have h2 : RdP _ x s (i + 1) v ps := h1.by (frm_at (v := .int .i64 ((i + 1 : Nat) : Int)) (j := 1) (Frm.refl (fun k => k = x) w1)) (h1.rd.next (i + 1))
          have hf2 := frm_at (v := .int .i64 ((i + 1 : Nat) : Int)) (j := 1) (frm_no (x := x) Hf1.out)
          go_upto_region 5 with fail
          obtain ⟨W2, hW2⟩ : ∃ W, W = w1.setCell ⟨x, 1, none⟩ (.int .i64 ((i : Int) + 1)) := ⟨_, rfl⟩
          have hz : (((i + 1 : Nat) : Int)) = (i : Int) + 1 := by omega
          rw [hz] at h2 hf2
          rw [← hW2] at h2 hf2 ⊢
          clear c0 c1 z1 h1 hW2 hz
          obtain ⟨c0, c1, -, z1, -⟩ := rd_cells h2.rd
          have H2 := Lib.hid h2
          have Hf2 := Lib.hid hf2
          clear h2 hf2
          have t5' : (((i + 1 : Nat) : Int)) = (i : Int) + 1 := by omega
          rw [t5'] at c1
          clear t5'
          go_quiet (fail)
          go_wp2_with fail
          refine (Hpk1.out _ (H2.out.still ((Frm.refl (fun _ => False) W2).drewN _))).mono ?_
          rintro e w3 ⟨rfl, f3⟩
          have Hg3 := Lib.hid (Frm.trans ((Frm.refl (fun _ => False) W2).drewN _) f3)
          clear f3
          go_wp2_with fail
          have h5 := H2.out.still Hg3.out
          obtain ⟨d0, d1, -, y1, -⟩ := rd_cells h5.rd
          have H5 := Lib.hid h5
          clear h5 c0 c1 z1
          refine (Hix.out _).mono ?_
          rintro e w9 ⟨rfl, rfl⟩
          go_wp2_with fail
          have h6 : RdP _ x s (i + 1 + 1) v ps := H5.out.by (frm_at (v := .int .i64 ((i + 1 + 1 : Nat) : Int)) (j := 1) (Frm.refl (fun k => k = x) w9)) (H5.out.rd.next (i + 1 + 1))
          have hf6 := frm_at (v := .int .i64 ((i + 1 + 1 : Nat) : Int)) (j := 1) (Hf2.out.trans (frm_no Hg3.out))
          refine (Hcr.out _ h6).mono ?_
          rintro e w7 h7
          obtain ⟨rfl, f7⟩ := h7
          exact ⟨rfl, nxP_bad HR.out.symm rfl (frm_rd (hf6.trans f7))⟩
        | inr abt =>
          obtain ⟨a, b, t⟩ := abt
          rw [hct] at hR hcr
          simp only at hR
          have HR := Lib.hid hR
          have Hcr := Lib.hid hcr
          clear hR hcr hct
          obtain ⟨i0, hi0, hz0, hz1, hz2⟩ := pc_info
          go_enter Tryd.func82, Tryd.ntmps82
          go_wp2_with fail
          refine (Hpk.out _ (Frm.refl _ _)).mono ?_
          rintro e w1 ⟨rfl, f1⟩
          have Hf1 := Lib.hid f1
          clear f1
          have h1 := H.out.still Hf1.out
          obtain ⟨c0, c1, -, z1, -⟩ := rd_cells h1.rd
          have h2 : RdP _ x s (i + 1) v ps := h1.by (frm_at (v := .int .i64 ((i + 1 : Nat) : Int)) (j := 1) (Frm.refl (fun k => k = x) w1)) (h1.rd.next (i + 1))
          have hf2 := frm_at (v := .int .i64 ((i + 1 : Nat) : Int)) (j := 1) (frm_no (x := x) Hf1.out)
          go_upto_region 5 with fail
          obtain ⟨W2, hW2⟩ : ∃ W, W = w1.setCell ⟨x, 1, none⟩ (.int .i64 ((i : Int) + 1)) := ⟨_, rfl⟩
          have hz : (((i + 1 : Nat) : Int)) = (i : Int) + 1 := by omega
          rw [hz] at h2 hf2
          rw [← hW2] at h2 hf2 ⊢
          clear c0 c1 z1 h1 hW2 hz
          obtain ⟨c0, c1, -, z1, -⟩ := rd_cells h2.rd
          have H2 := Lib.hid h2
          have Hf2 := Lib.hid hf2
          clear h2 hf2
          have t5' : (((i + 1 : Nat) : Int)) = (i : Int) + 1 := by omega
          rw [t5'] at c1
          clear t5'
          go_quiet (fail)
          go_wp2_with fail
          refine (Hpk1.out _ (H2.out.still ((Frm.refl (fun _ => False) W2).drewN _))).mono ?_
          rintro e w3 ⟨rfl, f3⟩
          have Hg3 := Lib.hid (Frm.trans ((Frm.refl (fun _ => False) W2).drewN _) f3)
          clear f3
          go_wp2_with fail
          have h5 := H2.out.still Hg3.out
          obtain ⟨d0, d1, -, y1, -⟩ := rd_cells h5.rd
          have H5 := Lib.hid h5
          clear h5 c0 c1 z1
          refine (Hix.out _).mono ?_
          rintro e w9 ⟨rfl, rfl⟩
          go_wp2_with fail
          have h6 : RdP _ x s (i + 1 + 1) v ps := H5.out.by (frm_at (v := .int .i64 ((i + 1 + 1 : Nat) : Int)) (j := 1) (Frm.refl (fun k => k = x) w9)) (H5.out.rd.next (i + 1 + 1))
          have hf6 := frm_at (v := .int .i64 ((i + 1 + 1 : Nat) : Int)) (j := 1) (Hf2.out.trans (frm_no Hg3.out))
          refine (Hcr.out _ h6).mono ?_
          rintro e w7 h7
          obtain ⟨rfl, r7, f7⟩ := h7
          have h7 := h6.by f7 r7
          have Hf7 := Lib.hid (hf6.trans f7)
          obtain ⟨-, -, c2, -, z2⟩ := rd_cells h7.rd
          have H7 := Lib.hid h7
          have hbA : (w7.alloc (.cells #[.int .i64 (clsOf d), .int .i64 a, .int .i64 b, .string ⟨#[]⟩] 53)).ownsRow 0 53 4 v ps.length (ps.flatMap pcC) := (h7.pcs.still ((Frm.refl _ _).alloc _))
          clear h7 h6 hf6 f7 r7
          rw [HJ.out]
          go_wp2_with (at_builtin; refine wpList_append_one rfl _ _ 46 rfl 53 i0 (.agg #[.int .i64 0, .int .i64 0, .int .i64 0, .string ⟨#[]⟩]) 4 40 Tryd.underlying46 hi0 hz0 hz1 hz2 rfl (by decide) _ _ _ rfl hbA ⟨w7.heap.size, 0, none⟩ 1 [.int .i64 (clsOf d), .int .i64 a, .int .i64 b, .string ⟨#[]⟩] rfl rfl (new_cells w7 #[.int .i64 (clsOf d), .int .i64 a, .int .i64 b, .string ⟨#[]⟩] 53 w7.heap.size rfl) (by intro u hu; simp at hu; rcases hu with rfl | rfl | rfl | rfl <;> rfl) (by omega) (by unfold maxLen; omega) ?_)
          intro g cap2 w8 hown hfrm hgg
          have hP8 : Pcs w8 (.slice (some ⟨g, 0, none⟩) (ps.length + 1) cap2) (ps ++ [⟨clsOf d, a, b, ⟨#[]⟩⟩]) := Pcs.grow rfl hown
          have hfin := app_fin H7.out.rd H7.out.ne hP8 hfrm (by rw [World.size_alloc]; exact hgg)
          have hr8 : RdAt w8 x s _ v := hfrm.heap (((Frm.refl (fun _ => False) w7).alloc _).heap H7.out.rd (fun h => h)) H7.out.ne
          obtain ⟨-, -, y8, -, z8⟩ := rd_cells hr8
          have Hfin := Lib.hid hfin
          clear hown hP8 hfin hfrm hgg hr8 c2 z2
          go_wp2_with fail
          go_end0
          exact nxP_ok HR.out.symm rfl (Hfin.out.trans (frm_rd Hf7.out) (rdN_refl _ _))
    · obtain hend : i + 1 = s.size := by omega
      rw [List.drop_of_length_le (by rw [size_list]; omega)] at hR
      have HR := Lib.hid (show Sum.inl ([], 12) = R from hR)
      have t6 : ((i : Int) + 1 == (s.size : Int)) = true := by rw [beq_iff_eq]; omega
      have He := Lib.hid hend
      clear hR hlt hend
      go_enter Tryd.func82, Tryd.ntmps82
      go_wp2_with fail
      refine (Hpk.out _ (Frm.refl _ _)).mono ?_
      rintro e w1 ⟨rfl, f1⟩
      have Hf1 := Lib.hid f1
      clear f1
      have h1 := H.out.still Hf1.out
      obtain ⟨c0, c1, -, z1, -⟩ := rd_cells h1.rd
      have h2 : RdP _ x s (i + 1) v ps := h1.by (frm_at (v := .int .i64 ((i + 1 : Nat) : Int)) (j := 1) (Frm.refl (fun k => k = x) w1)) (h1.rd.next (i + 1))
      have hf2 := frm_at (v := .int .i64 ((i + 1 : Nat) : Int)) (j := 1) (frm_no (x := x) Hf1.out)
      go_upto_region 5 with fail
      obtain ⟨W2, hW2⟩ : ∃ W, W = w1.setCell ⟨x, 1, none⟩ (.int .i64 ((i : Int) + 1)) := ⟨_, rfl⟩
      have hz : (((i + 1 : Nat) : Int)) = (i : Int) + 1 := by omega
      rw [hz] at h2 hf2
      rw [← hW2] at h2 hf2 ⊢
      clear c0 c1 z1 h1 hW2 hz
      obtain ⟨c0, c1, -, z1, -⟩ := rd_cells h2.rd
      have H2 := Lib.hid h2
      have Hf2 := Lib.hid hf2
      clear h2 hf2
      have t5' : (((i + 1 : Nat) : Int)) = (i : Int) + 1 := by omega
      rw [t5'] at c1
      clear t5'
      go_quiet (fail)
      go_wp2_with fail
      refine (fail_any (H2.out.still ((Frm.refl (fun _ => False) W2).drewN _)).rd).mono ?_
      rintro e w6 ⟨rfl, rfl⟩
      exact ⟨rfl, nxP_bad HR.out.symm (by rw [List.length_nil]; have := He.out; omega) (frm_rd (Hf2.out.drewN _))⟩
  · rw [nxt_plain _ _ _ h92] at hR
    have e92 := u8_ne 92 h92
    simp only [show ((92 : UInt8).toNat : Int) = 92 from rfl] at e92
    have n92 : ((c.toNat : Int) != 92) = true := by rw [bne, e92]; rfl
    clear h92
    cases hsp : spc c
    · have Hs := Lib.hid hsp
      by_cases hcl : clsB c = 0
      · rw [if_pos (.inr hcl)] at hR
        have HR := Lib.hid hR
        have hk : ((clsB c : Int) == 0) = true := by rw [hcl]; rfl
        clear hR hch hcl hsp
        go_enter Tryd.func82, Tryd.ntmps82
        go_wp2_with fail
        refine (Hpk.out _ (Frm.refl _ _)).mono ?_
        rintro e w1 ⟨rfl, f1⟩
        have Hf1 := Lib.hid (Frm.trans (Frm.refl _ _) f1)
        clear f1
        go_wp2_with fail
        refine (Hpk.out _ Hf1.out).mono ?_
        rintro e w2 ⟨rfl, f2⟩
        have Hf2 := Lib.hid (Frm.trans Hf1.out f2)
        clear f2
        go_wp2_with fail
        refine (special_any c _).mono ?_
        rintro e w9 ⟨rfl, rfl⟩
        rw [Hs.out]
        go_wp2_with fail
        refine (Hpk.out _ Hf2.out).mono ?_
        rintro e w3 ⟨rfl, f3⟩
        have Hf3 := Lib.hid (Frm.trans Hf2.out f3)
        clear f3
        go_wp2_with fail
        refine (class_any c _).mono ?_
        rintro e w9 ⟨rfl, rfl⟩
        go_wp2_with fail
        have h3 := H.out.still Hf3.out
        refine (fail_any h3.rd).mono ?_
        rintro e w4 ⟨rfl, rfl⟩
        exact ⟨rfl, nxP_bad HR.out.symm (by rw [List.length_cons, List.length_drop, size_list]; omega) (frm_rd (frm_no Hf3.out))⟩
      · rw [if_neg (by rintro (h | h); rw [hsp] at h; cases h; exact hcl h)] at hR
        have HR := Lib.hid hR
        have hk : ((clsB c : Int) == 0) = false := by rw [beq_eq_false_iff_ne]; omega
        have Hch := Lib.hid hch
        clear hR hch hcl hsp
        go_enter Tryd.func82, Tryd.ntmps82
        go_wp2_with fail
        refine (Hpk.out _ (Frm.refl _ _)).mono ?_
        rintro e w1 ⟨rfl, f1⟩
        have Hf1 := Lib.hid (Frm.trans (Frm.refl _ _) f1)
        clear f1
        go_wp2_with fail
        refine (Hpk.out _ Hf1.out).mono ?_
        rintro e w2 ⟨rfl, f2⟩
        have Hf2 := Lib.hid (Frm.trans Hf1.out f2)
        clear f2
        go_wp2_with fail
        refine (special_any c _).mono ?_
        rintro e w9 ⟨rfl, rfl⟩
        rw [Hs.out]
        go_wp2_with fail
        refine (Hpk.out _ Hf2.out).mono ?_
        rintro e w3 ⟨rfl, f3⟩
        have Hf3 := Lib.hid (Frm.trans Hf2.out f3)
        clear f3
        go_wp2_with fail
        refine (class_any c _).mono ?_
        rintro e w9 ⟨rfl, rfl⟩
        go_wp2_with fail
        refine (Hch.out _ Hf3.out).mono ?_
        rintro e w4 h4
        obtain ⟨rfl, h4⟩ := h4
        have H4 := Lib.hid h4
        clear h4
        go_wp2_with fail
        go_end0
        exact nxP_ok HR.out.symm (len_drop (j := i + 1) (by omega)) (ChP.trans ⟨rfl, H4.out⟩ (frm_rd (frm_no Hf3.out)) (rdN_refl _ _))
    · rw [if_pos (.inl hsp)] at hR
      have HR := Lib.hid hR
      have Hs := Lib.hid hsp
      clear hR hch hsp
      go_enter Tryd.func82, Tryd.ntmps82
      go_wp2_with fail
      refine (Hpk.out _ (Frm.refl _ _)).mono ?_
      rintro e w1 ⟨rfl, f1⟩
      have Hf1 := Lib.hid (Frm.trans (Frm.refl _ _) f1)
      clear f1
      go_wp2_with fail
      refine (Hpk.out _ Hf1.out).mono ?_
      rintro e w2 ⟨rfl, f2⟩
      have Hf2 := Lib.hid (Frm.trans Hf1.out f2)
      clear f2
      go_wp2_with fail
      refine (special_any c _).mono ?_
      rintro e w9 ⟨rfl, rfl⟩
      rw [Hs.out]
      go_wp2_with fail
      have h3 := H.out.still Hf2.out
      refine (fail_any h3.rd).mono ?_
      rintro e w4 ⟨rfl, rfl⟩
      exact ⟨rfl, nxP_bad HR.out.symm (by rw [List.length_cons, List.length_drop, size_list]; omega) (frm_rd (frm_no Hf2.out))⟩
end Go.Proofs.YtgnjakaamgeibaaDoor
