/-
  Read of the reference: what its code does. Printed by wip/rread.py. Conditions: the text is within reach.
-/
import Derived.Test.YtmpfgdpicbpedaaDoorRFmt
namespace Go.Proofs.YtmpfgdpicbpedaaDoor
open Go.RowKit Go.Shelf
attribute [local go_sem] Oper.semAt_some

theorem rr_bad {s t : List UInt8} {ps : List (List UInt8)} {k : Nat} {v : Ymd} (h : isF t = true) (hk : k > s.length) : rr s (t :: ps) k v = none := by
  rw [rr, if_pos h, if_pos hk]
theorem rr_field {s t : List UInt8} {ps : List (List UInt8)} {k : Nat} {v : Ymd} (h : isF t = true) (hk : ¬ k > s.length) : rr s (t :: ps) k v = rr s ps (k + (dgs (s.drop k) (most t)).length) (setV v t (val (dgs (s.drop k) (most t)))) := by
  rw [rr, if_pos h, if_neg hk]
theorem rr_lit {s t : List UInt8} {ps : List (List UInt8)} {k : Nat} {v : Ymd} (h : isF t = false) : rr s (t :: ps) k v = rr s ps (k + 1) v := by
  rw [rr, if_neg (by rw [h]; simp)]
theorem dgs_drop (s : ByteArray) (at' en mo : Nat) (h1 : at' ≤ en) (h2 : en ≤ at' + mo) (h3 : en ≤ s.size) (ha : ((s.data.toList.drop at').take (en - at')).all digB = true) (hs : en = at' + mo ∨ en = s.size ∨ ∃ h : en < s.size, digB s[en] = false) : dgs (s.data.toList.drop at') mo = (s.extract at' en).data.toList ∧ (dgs (s.data.toList.drop at') mo).length = en - at' ∧ (s.extract at' en).data.toList.all digB = true ∧ (s.extract at' en).size = en - at' := by
  have hl : (s.data.toList.drop at').length = s.size - at' := by rw [List.length_drop, size_toList]
  have e := dgs_full (s.data.toList.drop at') mo (en - at') (by omega) (by omega) ha (by
    rcases hs with h | h | ⟨h, hd⟩
    · exact .inl (by omega)
    · exact .inr (.inl (by omega))
    · refine .inr (.inr ⟨by omega, ?_⟩)
      rw [List.getElem_drop]
      have e2 : at' + (en - at') = en := by omega
      simp only [e2]
      exact hd)
  rw [ext_list, e]
  refine ⟨rfl, by rw [List.length_take]; omega, ha, ?_⟩
  rw [ByteArray.size_extract]
  omega
theorem dgs_step (s : ByteArray) (at' en : Nat) (h1 : at' ≤ en) (h3 : en < s.size) (ha : ((s.data.toList.drop at').take (en - at')).all digB = true) (hd : digB s[en] = true) : ((s.data.toList.drop at').take (en + 1 - at')).all digB = true := by
  have hl : (s.data.toList.drop at').length = s.size - at' := by rw [List.length_drop, size_toList]
  have h := (all_snoc (L := s.data.toList.drop at') (j := en - at') (by omega) ha (by
    rw [List.getElem_drop]
    have e2 : at' + (en - at') = en := by omega
    simp only [e2]
    exact hd)).1
  rw [show en + 1 - at' = en - at' + 1 by omega]
  exact h

set_option maxRecDepth 100000 in
set_option maxHeartbeats 8000000 in
theorem rread_any (l s : ByteArray) (hs : s.size ≤ 140737488355328) (w : World) : Calls Tryd.prog 26 #[.string l, .string s] w fun e w' => rdO l.data.toList s.data.toList e ∧ Frm (fun _ => False) w w' := by
  go_enter Tryd.func26, Tryd.ntmps26
  go_wp2_with fail
  refine (rright_any l _).mono ?_
  rintro e w1 ⟨rfl, f1⟩
  cases hr : rightB l.data.toList
  · have hno : ∀ n, ¬ IsDay l.data.toList s.data.toList n := fun n hn => by have := hn.1; rw [hr] at this; cases this
    have Hno := Lib.hid hno
    clear hr hno
    go_wp2_with fail
    go_ret2
    exact ⟨.inl ⟨Hno.out, rfl⟩, f1⟩
  · have hsz := right_len hr
    rw [size_toList] at hsz
    have Hr := Lib.hid hr
    clear hr
    go_wp2_with fail
    refine (rparts_any l (by omega) _).mono ?_
    rintro e w2 ⟨pv, rfl, hst, f2, hnew⟩
    have hform := parts_form l.data.toList
    have hpl := parts_len l.data.toList
    rw [size_toList] at hpl
    have hrd : ∀ n, IsDay l.data.toList s.data.toList n → ∃ y m d : Nat, Civ n y m d ∧ fmtL y m d l.data.toList = s.data.toList ∧ rr s.data.toList (parts l.data.toList) 0 (0, 0, 0) = some (y, m, d) := fun n hn => by
      obtain ⟨y, m, d, h1, h2, -, h3⟩ := hn.rd
      exact ⟨y, m, d, h1, h2, h3⟩
    have Hrd := Lib.hid hrd
    clear hrd
    generalize parts l.data.toList = ps at hst hform hpl Hrd
    have hpl2 : ps.length ≤ 40 := by omega
    obtain ⟨ao, cap, rfl⟩ := hst.form
    obtain ⟨B, hB⟩ : ∃ b, b = w1.heap.size := ⟨_, rfl⟩
    clear hpl
    have hO0 : w2.heap[B]? = some (.cells #[.int .i64 0, .int .i64 0, .int .i64 0] 22 (0, 0)) := f2.heap (by rw [hB]; exact heap_alloc_new w1 _) (fun h => h)
    have f3 : Frm (fun _ => False) w w2 := (f1.alloc _).trans f2
    have hnB : ∀ b, Blk (.slice ao ps.length cap) b → b ≠ B := fun b hb => by
      have := hnew b hb
      rw [World.size_alloc] at this
      omega
    have hBn : w.heap.size ≤ B := by have := f1.size; omega
    rw [← hB]
    clear hB f1 f2 hnew
    go_wp2_with fail
    go_loopw [8, 10] (fun sa sk wr => ∃ (k at' : Nat) (v : Ymd), sa = .int .i64 at' ∧ sk = .int .i64 k ∧ k ≤ ps.length ∧ at' ≤ 140737488355328 + k ∧ Hid (rr s.data.toList ps 0 (0, 0, 0) = rr s.data.toList (ps.drop k) at' v) ∧ wr.heap[B]? = some (.cells #[.int .i64 (v.1 : Nat), .int .i64 (v.2.1 : Nat), .int .i64 (v.2.2 : Nat)] 22 (0, 0)) ∧ Strs wr (.slice ao ps.length cap) ps ∧ Frm (fun _ => False) w wr) (fun _ sk _ => ps.length - (intOf sk).toNat)
    case atStart => exact ⟨0, 0, (0, 0, 0), rfl, rfl, Nat.zero_le _, by omega, by show _ = _; rfl, hO0, hst, f3⟩
    case round =>
      clear hO0 hst f3
      obtain ⟨k, at', v, rfl, rfl, hk, hat0, hrr, hO, hst, hf⟩ := hrel
      by_cases hlt : k < ps.length
      · obtain ⟨g, cap', hv, hc, hg⟩ := hst.cell k hlt
        obtain ⟨e1, e2⟩ : ao = some ⟨g, 0, none⟩ ∧ cap = cap' := by injection hv with h1 _ h2; exact ⟨h1, h2⟩
        subst e1
        subst e2
        have hgB : g ≠ B := hnB g (Blk.some.2 rfl)
        have hgB2 : B ≠ g := fun e => hgB e.symm
        have hat1 : at' ≤ 140737488355368 := by omega
        have hrs := hrr.out
        rw [List.drop_eq_getElem_cons hlt] at hrs
        have Hrs := Lib.hid hrs
        obtain ⟨q0, q1, q2, z0, z1, z2⟩ := cells3' hO
        clear hv hrs hrr hform
        generalize ps[k] = t at Hrs hc
        obtain ⟨wo, rfl⟩ : ∃ wo : World, wo = wr := ⟨_, rfl⟩
        by_cases hfY : t = fY
        · subst hfY
          have hc' : wo.cell? ⟨g, k, none⟩ = some (.string ⟨#[89, 89, 89, 89]⟩) := hc
          clear hc
          by_cases hat : at' ≤ s.size
          · go_wp2_with fail
            go_loop [12] (fun sx => ∃ en : Nat, sx = .int .i64 en ∧ at' ≤ en ∧ en ≤ at' + 4 ∧ en ≤ s.size ∧ Hid (((s.data.toList.drop at').take (en - at')).all digB = true)) (fun sx => s.size - (intOf sx).toNat)
            case atStart => exact ⟨at', rfl, Nat.le_refl _, by omega, hat, by rw [Nat.sub_self]; show _ = _; rfl⟩
            case round =>
              obtain ⟨en, rfl, en1, en2, en3, hal⟩ := hrel
              have way : (en < s.size ∧ en < at' + 4 ∧ ∃ h : en < s.size, digB s[en] = true) ∨ (en = at' + 4 ∨ en = s.size ∨ ∃ h : en < s.size, digB s[en] = false) := by
                by_cases c1 : en = s.size
                · exact .inr (.inr (.inl c1))
                · by_cases c2 : en = at' + 4
                  · exact .inr (.inl c2)
                  · cases hd : digB (s[en]'(by omega))
                    · exact .inr (.inr (.inr ⟨by omega, hd⟩))
                    · exact .inl ⟨by omega, by omega, by omega, hd⟩
              rcases way with ⟨c1, c2, c3, hd⟩ | way
              · have hnx := dgs_step s at' en en1 c1 hal.out hd
                have Hnx := Lib.hid hnx
                unfold digB at hd
                obtain ⟨d1, d2⟩ := of_decide_eq_true hd
                have d3 : (48 : Int) ≤ s[en].toNat := by omega
                have d4 : (s[en].toNat : Int) ≤ 57 := by omega
                have c4 : (en : Int) < (at' : Int) + 4 := by omega
                clear hnx hd hal
                go_wp2_with fail
                go_round
                case rel => exact ⟨en + 1, by go_num, by omega, by omega, c1, Hnx⟩
                case measure => simp [intOf]; omega
              · have Dg := dgs_drop s at' en 4 en1 en2 en3 hal.out way
                clear hal
                by_cases c1 : en = s.size
                · have c2 : ¬ ((en : Int) < (s.size : Int)) := by omega
                  clear way c1
                  obtain ⟨dg1, dg2, dg3, dg4⟩ := Dg
                  have hnx : rr s.data.toList ps 0 (0, 0, 0) = rr s.data.toList (ps.drop (k + 1)) en (val ((s.data.toList.drop at').take (en - at')), v.2.1, v.2.2) := by
                    rw [Hrs.out, rr_field (t := fY) rfl (by rw [size_toList]; omega)]
                    rw [show most fY = 4 from rfl, dg2, dg1, ext_list, show at' + (en - at') = en by omega]
                    rfl
                  have hnb := nbR_yes dg3 _ rfl
                  rw [ext_list] at hnb
                  have Hnx := Lib.hid hnx
                  have Hnb := Lib.hid hnb
                  have Dg4 : (s.extract at' en).size ≤ 4 := by omega
                  clear hnx hnb dg1 dg2 dg3 dg4
                  go_wp2_with fail
                  refine (rnumber_any (s.extract at' en) Dg4 _).mono ?_
                  rintro e w5 ⟨rfl, rfl⟩
                  rw [Hnb.out]
                  go_wp2_with fail
                  go_roundw
                  case rel => exact ⟨k + 1, en, (val ((s.data.toList.drop at').take (en - at')), v.2.1, v.2.2), rfl, by go_num, hlt, by omega, Hnx, heap_set hO _, hst.frm (F := fun b => b = B) (set_frm _ _ _ _) hnB, hf.setCell (.inr hBn) _⟩
                  case measure => simp [intOf]; omega
                · by_cases c2 : en = at' + 4
                  · have c3 : ¬ ((en : Int) < (at' : Int) + 4) := by omega
                    have c4 : (en : Int) < s.size := by omega
                    clear way c2 c1
                    obtain ⟨dg1, dg2, dg3, dg4⟩ := Dg
                    have hnx : rr s.data.toList ps 0 (0, 0, 0) = rr s.data.toList (ps.drop (k + 1)) en (val ((s.data.toList.drop at').take (en - at')), v.2.1, v.2.2) := by
                      rw [Hrs.out, rr_field (t := fY) rfl (by rw [size_toList]; omega)]
                      rw [show most fY = 4 from rfl, dg2, dg1, ext_list, show at' + (en - at') = en by omega]
                      rfl
                    have hnb := nbR_yes dg3 _ rfl
                    rw [ext_list] at hnb
                    have Hnx := Lib.hid hnx
                    have Hnb := Lib.hid hnb
                    have Dg4 : (s.extract at' en).size ≤ 4 := by omega
                    clear hnx hnb dg1 dg2 dg3 dg4
                    go_wp2_with fail
                    refine (rnumber_any (s.extract at' en) Dg4 _).mono ?_
                    rintro e w5 ⟨rfl, rfl⟩
                    rw [Hnb.out]
                    go_wp2_with fail
                    go_roundw
                    case rel => exact ⟨k + 1, en, (val ((s.data.toList.drop at').take (en - at')), v.2.1, v.2.2), rfl, by go_num, hlt, by omega, Hnx, heap_set hO _, hst.frm (F := fun b => b = B) (set_frm _ _ _ _) hnB, hf.setCell (.inr hBn) _⟩
                    case measure => simp [intOf]; omega
                  · have c3 : (en : Int) < (at' : Int) + 4 := by omega
                    obtain ⟨c4, hd⟩ : ∃ h : en < s.size, digB s[en] = false := by
                      rcases way with h | h | h
                      · exact absurd h c2
                      · exact absurd h c1
                      · exact h
                    unfold digB at hd
                    rw [decide_eq_false_iff_not] at hd
                    have hd2 : (s[en].toNat : Int) < 48 ∨ ((48 : Int) ≤ s[en].toNat ∧ 57 < (s[en].toNat : Int)) := by omega
                    clear way hd c1 c2
                    rcases hd2 with d1 | ⟨d1, d2⟩
                    · obtain ⟨dg1, dg2, dg3, dg4⟩ := Dg
                      have hnx : rr s.data.toList ps 0 (0, 0, 0) = rr s.data.toList (ps.drop (k + 1)) en (val ((s.data.toList.drop at').take (en - at')), v.2.1, v.2.2) := by
                        rw [Hrs.out, rr_field (t := fY) rfl (by rw [size_toList]; omega)]
                        rw [show most fY = 4 from rfl, dg2, dg1, ext_list, show at' + (en - at') = en by omega]
                        rfl
                      have hnb := nbR_yes dg3 _ rfl
                      rw [ext_list] at hnb
                      have Hnx := Lib.hid hnx
                      have Hnb := Lib.hid hnb
                      have Dg4 : (s.extract at' en).size ≤ 4 := by omega
                      clear hnx hnb dg1 dg2 dg3 dg4
                      go_wp2_with fail
                      refine (rnumber_any (s.extract at' en) Dg4 _).mono ?_
                      rintro e w5 ⟨rfl, rfl⟩
                      rw [Hnb.out]
                      go_wp2_with fail
                      go_roundw
                      case rel => exact ⟨k + 1, en, (val ((s.data.toList.drop at').take (en - at')), v.2.1, v.2.2), rfl, by go_num, hlt, by omega, Hnx, heap_set hO _, hst.frm (F := fun b => b = B) (set_frm _ _ _ _) hnB, hf.setCell (.inr hBn) _⟩
                      case measure => simp [intOf]; omega
                    · obtain ⟨dg1, dg2, dg3, dg4⟩ := Dg
                      have hnx : rr s.data.toList ps 0 (0, 0, 0) = rr s.data.toList (ps.drop (k + 1)) en (val ((s.data.toList.drop at').take (en - at')), v.2.1, v.2.2) := by
                        rw [Hrs.out, rr_field (t := fY) rfl (by rw [size_toList]; omega)]
                        rw [show most fY = 4 from rfl, dg2, dg1, ext_list, show at' + (en - at') = en by omega]
                        rfl
                      have hnb := nbR_yes dg3 _ rfl
                      rw [ext_list] at hnb
                      have Hnx := Lib.hid hnx
                      have Hnb := Lib.hid hnb
                      have Dg4 : (s.extract at' en).size ≤ 4 := by omega
                      clear hnx hnb dg1 dg2 dg3 dg4
                      go_wp2_with fail
                      refine (rnumber_any (s.extract at' en) Dg4 _).mono ?_
                      rintro e w5 ⟨rfl, rfl⟩
                      rw [Hnb.out]
                      go_wp2_with fail
                      go_roundw
                      case rel => exact ⟨k + 1, en, (val ((s.data.toList.drop at').take (en - at')), v.2.1, v.2.2), rfl, by go_num, hlt, by omega, Hnx, heap_set hO _, hst.frm (F := fun b => b = B) (set_frm _ _ _ _) hnB, hf.setCell (.inr hBn) _⟩
                      case measure => simp [intOf]; omega
          · have hno : rr s.data.toList ps 0 (0, 0, 0) = none := by rw [Hrs.out, rr_bad (t := fY) rfl (by rw [size_toList]; omega)]
            have hno2 : ∀ n, ¬ IsDay l.data.toList s.data.toList n := fun n hn => by
              obtain ⟨y, m, d, -, -, h⟩ := Hrd.out n hn
              rw [hno] at h
              cases h
            have Hno := Lib.hid hno2
            clear hno hno2
            go_wp2_with fail
            go_loop [12] (fun sx => sx = .int .i64 at') (fun _ => 0)
            case atStart => rfl
            case round =>
              obtain rfl := hrel
              go_wp2_with fail
              go_ret2
              exact ⟨.inl ⟨Hno.out, rfl⟩, hf⟩
        by_cases hfMM : t = fMM
        · subst hfMM
          have hc' : wo.cell? ⟨g, k, none⟩ = some (.string ⟨#[77, 77]⟩) := hc
          clear hc
          by_cases hat : at' ≤ s.size
          · go_wp2_with fail
            go_loop [12] (fun sx => ∃ en : Nat, sx = .int .i64 en ∧ at' ≤ en ∧ en ≤ at' + 2 ∧ en ≤ s.size ∧ Hid (((s.data.toList.drop at').take (en - at')).all digB = true)) (fun sx => s.size - (intOf sx).toNat)
            case atStart => exact ⟨at', rfl, Nat.le_refl _, by omega, hat, by rw [Nat.sub_self]; show _ = _; rfl⟩
            case round =>
              obtain ⟨en, rfl, en1, en2, en3, hal⟩ := hrel
              have way : (en < s.size ∧ en < at' + 2 ∧ ∃ h : en < s.size, digB s[en] = true) ∨ (en = at' + 2 ∨ en = s.size ∨ ∃ h : en < s.size, digB s[en] = false) := by
                by_cases c1 : en = s.size
                · exact .inr (.inr (.inl c1))
                · by_cases c2 : en = at' + 2
                  · exact .inr (.inl c2)
                  · cases hd : digB (s[en]'(by omega))
                    · exact .inr (.inr (.inr ⟨by omega, hd⟩))
                    · exact .inl ⟨by omega, by omega, by omega, hd⟩
              rcases way with ⟨c1, c2, c3, hd⟩ | way
              · have hnx := dgs_step s at' en en1 c1 hal.out hd
                have Hnx := Lib.hid hnx
                unfold digB at hd
                obtain ⟨d1, d2⟩ := of_decide_eq_true hd
                have d3 : (48 : Int) ≤ s[en].toNat := by omega
                have d4 : (s[en].toNat : Int) ≤ 57 := by omega
                have c4 : (en : Int) < (at' : Int) + 2 := by omega
                clear hnx hd hal
                go_wp2_with fail
                go_round
                case rel => exact ⟨en + 1, by go_num, by omega, by omega, c1, Hnx⟩
                case measure => simp [intOf]; omega
              · have Dg := dgs_drop s at' en 2 en1 en2 en3 hal.out way
                clear hal
                by_cases c1 : en = s.size
                · have c2 : ¬ ((en : Int) < (s.size : Int)) := by omega
                  clear way c1
                  obtain ⟨dg1, dg2, dg3, dg4⟩ := Dg
                  have hnx : rr s.data.toList ps 0 (0, 0, 0) = rr s.data.toList (ps.drop (k + 1)) en (v.1, val ((s.data.toList.drop at').take (en - at')), v.2.2) := by
                    rw [Hrs.out, rr_field (t := fMM) rfl (by rw [size_toList]; omega)]
                    rw [show most fMM = 2 from rfl, dg2, dg1, ext_list, show at' + (en - at') = en by omega]
                    rfl
                  have hnb := nbR_yes dg3 _ rfl
                  rw [ext_list] at hnb
                  have Hnx := Lib.hid hnx
                  have Hnb := Lib.hid hnb
                  have Dg4 : (s.extract at' en).size ≤ 4 := by omega
                  clear hnx hnb dg1 dg2 dg3 dg4
                  go_wp2_with fail
                  refine (rnumber_any (s.extract at' en) Dg4 _).mono ?_
                  rintro e w5 ⟨rfl, rfl⟩
                  rw [Hnb.out]
                  go_wp2_with fail
                  go_roundw
                  case rel => exact ⟨k + 1, en, (v.1, val ((s.data.toList.drop at').take (en - at')), v.2.2), rfl, by go_num, hlt, by omega, Hnx, heap_set hO _, hst.frm (F := fun b => b = B) (set_frm _ _ _ _) hnB, hf.setCell (.inr hBn) _⟩
                  case measure => simp [intOf]; omega
                · by_cases c2 : en = at' + 2
                  · have c3 : ¬ ((en : Int) < (at' : Int) + 2) := by omega
                    have c4 : (en : Int) < s.size := by omega
                    clear way c2 c1
                    obtain ⟨dg1, dg2, dg3, dg4⟩ := Dg
                    have hnx : rr s.data.toList ps 0 (0, 0, 0) = rr s.data.toList (ps.drop (k + 1)) en (v.1, val ((s.data.toList.drop at').take (en - at')), v.2.2) := by
                      rw [Hrs.out, rr_field (t := fMM) rfl (by rw [size_toList]; omega)]
                      rw [show most fMM = 2 from rfl, dg2, dg1, ext_list, show at' + (en - at') = en by omega]
                      rfl
                    have hnb := nbR_yes dg3 _ rfl
                    rw [ext_list] at hnb
                    have Hnx := Lib.hid hnx
                    have Hnb := Lib.hid hnb
                    have Dg4 : (s.extract at' en).size ≤ 4 := by omega
                    clear hnx hnb dg1 dg2 dg3 dg4
                    go_wp2_with fail
                    refine (rnumber_any (s.extract at' en) Dg4 _).mono ?_
                    rintro e w5 ⟨rfl, rfl⟩
                    rw [Hnb.out]
                    go_wp2_with fail
                    go_roundw
                    case rel => exact ⟨k + 1, en, (v.1, val ((s.data.toList.drop at').take (en - at')), v.2.2), rfl, by go_num, hlt, by omega, Hnx, heap_set hO _, hst.frm (F := fun b => b = B) (set_frm _ _ _ _) hnB, hf.setCell (.inr hBn) _⟩
                    case measure => simp [intOf]; omega
                  · have c3 : (en : Int) < (at' : Int) + 2 := by omega
                    obtain ⟨c4, hd⟩ : ∃ h : en < s.size, digB s[en] = false := by
                      rcases way with h | h | h
                      · exact absurd h c2
                      · exact absurd h c1
                      · exact h
                    unfold digB at hd
                    rw [decide_eq_false_iff_not] at hd
                    have hd2 : (s[en].toNat : Int) < 48 ∨ ((48 : Int) ≤ s[en].toNat ∧ 57 < (s[en].toNat : Int)) := by omega
                    clear way hd c1 c2
                    rcases hd2 with d1 | ⟨d1, d2⟩
                    · obtain ⟨dg1, dg2, dg3, dg4⟩ := Dg
                      have hnx : rr s.data.toList ps 0 (0, 0, 0) = rr s.data.toList (ps.drop (k + 1)) en (v.1, val ((s.data.toList.drop at').take (en - at')), v.2.2) := by
                        rw [Hrs.out, rr_field (t := fMM) rfl (by rw [size_toList]; omega)]
                        rw [show most fMM = 2 from rfl, dg2, dg1, ext_list, show at' + (en - at') = en by omega]
                        rfl
                      have hnb := nbR_yes dg3 _ rfl
                      rw [ext_list] at hnb
                      have Hnx := Lib.hid hnx
                      have Hnb := Lib.hid hnb
                      have Dg4 : (s.extract at' en).size ≤ 4 := by omega
                      clear hnx hnb dg1 dg2 dg3 dg4
                      go_wp2_with fail
                      refine (rnumber_any (s.extract at' en) Dg4 _).mono ?_
                      rintro e w5 ⟨rfl, rfl⟩
                      rw [Hnb.out]
                      go_wp2_with fail
                      go_roundw
                      case rel => exact ⟨k + 1, en, (v.1, val ((s.data.toList.drop at').take (en - at')), v.2.2), rfl, by go_num, hlt, by omega, Hnx, heap_set hO _, hst.frm (F := fun b => b = B) (set_frm _ _ _ _) hnB, hf.setCell (.inr hBn) _⟩
                      case measure => simp [intOf]; omega
                    · obtain ⟨dg1, dg2, dg3, dg4⟩ := Dg
                      have hnx : rr s.data.toList ps 0 (0, 0, 0) = rr s.data.toList (ps.drop (k + 1)) en (v.1, val ((s.data.toList.drop at').take (en - at')), v.2.2) := by
                        rw [Hrs.out, rr_field (t := fMM) rfl (by rw [size_toList]; omega)]
                        rw [show most fMM = 2 from rfl, dg2, dg1, ext_list, show at' + (en - at') = en by omega]
                        rfl
                      have hnb := nbR_yes dg3 _ rfl
                      rw [ext_list] at hnb
                      have Hnx := Lib.hid hnx
                      have Hnb := Lib.hid hnb
                      have Dg4 : (s.extract at' en).size ≤ 4 := by omega
                      clear hnx hnb dg1 dg2 dg3 dg4
                      go_wp2_with fail
                      refine (rnumber_any (s.extract at' en) Dg4 _).mono ?_
                      rintro e w5 ⟨rfl, rfl⟩
                      rw [Hnb.out]
                      go_wp2_with fail
                      go_roundw
                      case rel => exact ⟨k + 1, en, (v.1, val ((s.data.toList.drop at').take (en - at')), v.2.2), rfl, by go_num, hlt, by omega, Hnx, heap_set hO _, hst.frm (F := fun b => b = B) (set_frm _ _ _ _) hnB, hf.setCell (.inr hBn) _⟩
                      case measure => simp [intOf]; omega
          · have hno : rr s.data.toList ps 0 (0, 0, 0) = none := by rw [Hrs.out, rr_bad (t := fMM) rfl (by rw [size_toList]; omega)]
            have hno2 : ∀ n, ¬ IsDay l.data.toList s.data.toList n := fun n hn => by
              obtain ⟨y, m, d, -, -, h⟩ := Hrd.out n hn
              rw [hno] at h
              cases h
            have Hno := Lib.hid hno2
            clear hno hno2
            go_wp2_with fail
            go_loop [12] (fun sx => sx = .int .i64 at') (fun _ => 0)
            case atStart => rfl
            case round =>
              obtain rfl := hrel
              go_wp2_with fail
              go_ret2
              exact ⟨.inl ⟨Hno.out, rfl⟩, hf⟩
        by_cases hfM : t = fM
        · subst hfM
          have hc' : wo.cell? ⟨g, k, none⟩ = some (.string ⟨#[77]⟩) := hc
          clear hc
          by_cases hat : at' ≤ s.size
          · go_wp2_with fail
            go_loop [12] (fun sx => ∃ en : Nat, sx = .int .i64 en ∧ at' ≤ en ∧ en ≤ at' + 2 ∧ en ≤ s.size ∧ Hid (((s.data.toList.drop at').take (en - at')).all digB = true)) (fun sx => s.size - (intOf sx).toNat)
            case atStart => exact ⟨at', rfl, Nat.le_refl _, by omega, hat, by rw [Nat.sub_self]; show _ = _; rfl⟩
            case round =>
              obtain ⟨en, rfl, en1, en2, en3, hal⟩ := hrel
              have way : (en < s.size ∧ en < at' + 2 ∧ ∃ h : en < s.size, digB s[en] = true) ∨ (en = at' + 2 ∨ en = s.size ∨ ∃ h : en < s.size, digB s[en] = false) := by
                by_cases c1 : en = s.size
                · exact .inr (.inr (.inl c1))
                · by_cases c2 : en = at' + 2
                  · exact .inr (.inl c2)
                  · cases hd : digB (s[en]'(by omega))
                    · exact .inr (.inr (.inr ⟨by omega, hd⟩))
                    · exact .inl ⟨by omega, by omega, by omega, hd⟩
              rcases way with ⟨c1, c2, c3, hd⟩ | way
              · have hnx := dgs_step s at' en en1 c1 hal.out hd
                have Hnx := Lib.hid hnx
                unfold digB at hd
                obtain ⟨d1, d2⟩ := of_decide_eq_true hd
                have d3 : (48 : Int) ≤ s[en].toNat := by omega
                have d4 : (s[en].toNat : Int) ≤ 57 := by omega
                have c4 : (en : Int) < (at' : Int) + 2 := by omega
                clear hnx hd hal
                go_wp2_with fail
                go_round
                case rel => exact ⟨en + 1, by go_num, by omega, by omega, c1, Hnx⟩
                case measure => simp [intOf]; omega
              · have Dg := dgs_drop s at' en 2 en1 en2 en3 hal.out way
                clear hal
                by_cases c1 : en = s.size
                · have c2 : ¬ ((en : Int) < (s.size : Int)) := by omega
                  clear way c1
                  obtain ⟨dg1, dg2, dg3, dg4⟩ := Dg
                  have hnx : rr s.data.toList ps 0 (0, 0, 0) = rr s.data.toList (ps.drop (k + 1)) en (v.1, val ((s.data.toList.drop at').take (en - at')), v.2.2) := by
                    rw [Hrs.out, rr_field (t := fM) rfl (by rw [size_toList]; omega)]
                    rw [show most fM = 2 from rfl, dg2, dg1, ext_list, show at' + (en - at') = en by omega]
                    rfl
                  have hnb := nbR_yes dg3 _ rfl
                  rw [ext_list] at hnb
                  have Hnx := Lib.hid hnx
                  have Hnb := Lib.hid hnb
                  have Dg4 : (s.extract at' en).size ≤ 4 := by omega
                  clear hnx hnb dg1 dg2 dg3 dg4
                  go_wp2_with fail
                  refine (rnumber_any (s.extract at' en) Dg4 _).mono ?_
                  rintro e w5 ⟨rfl, rfl⟩
                  rw [Hnb.out]
                  go_wp2_with fail
                  go_roundw
                  case rel => exact ⟨k + 1, en, (v.1, val ((s.data.toList.drop at').take (en - at')), v.2.2), rfl, by go_num, hlt, by omega, Hnx, heap_set hO _, hst.frm (F := fun b => b = B) (set_frm _ _ _ _) hnB, hf.setCell (.inr hBn) _⟩
                  case measure => simp [intOf]; omega
                · by_cases c2 : en = at' + 2
                  · have c3 : ¬ ((en : Int) < (at' : Int) + 2) := by omega
                    have c4 : (en : Int) < s.size := by omega
                    clear way c2 c1
                    obtain ⟨dg1, dg2, dg3, dg4⟩ := Dg
                    have hnx : rr s.data.toList ps 0 (0, 0, 0) = rr s.data.toList (ps.drop (k + 1)) en (v.1, val ((s.data.toList.drop at').take (en - at')), v.2.2) := by
                      rw [Hrs.out, rr_field (t := fM) rfl (by rw [size_toList]; omega)]
                      rw [show most fM = 2 from rfl, dg2, dg1, ext_list, show at' + (en - at') = en by omega]
                      rfl
                    have hnb := nbR_yes dg3 _ rfl
                    rw [ext_list] at hnb
                    have Hnx := Lib.hid hnx
                    have Hnb := Lib.hid hnb
                    have Dg4 : (s.extract at' en).size ≤ 4 := by omega
                    clear hnx hnb dg1 dg2 dg3 dg4
                    go_wp2_with fail
                    refine (rnumber_any (s.extract at' en) Dg4 _).mono ?_
                    rintro e w5 ⟨rfl, rfl⟩
                    rw [Hnb.out]
                    go_wp2_with fail
                    go_roundw
                    case rel => exact ⟨k + 1, en, (v.1, val ((s.data.toList.drop at').take (en - at')), v.2.2), rfl, by go_num, hlt, by omega, Hnx, heap_set hO _, hst.frm (F := fun b => b = B) (set_frm _ _ _ _) hnB, hf.setCell (.inr hBn) _⟩
                    case measure => simp [intOf]; omega
                  · have c3 : (en : Int) < (at' : Int) + 2 := by omega
                    obtain ⟨c4, hd⟩ : ∃ h : en < s.size, digB s[en] = false := by
                      rcases way with h | h | h
                      · exact absurd h c2
                      · exact absurd h c1
                      · exact h
                    unfold digB at hd
                    rw [decide_eq_false_iff_not] at hd
                    have hd2 : (s[en].toNat : Int) < 48 ∨ ((48 : Int) ≤ s[en].toNat ∧ 57 < (s[en].toNat : Int)) := by omega
                    clear way hd c1 c2
                    rcases hd2 with d1 | ⟨d1, d2⟩
                    · obtain ⟨dg1, dg2, dg3, dg4⟩ := Dg
                      have hnx : rr s.data.toList ps 0 (0, 0, 0) = rr s.data.toList (ps.drop (k + 1)) en (v.1, val ((s.data.toList.drop at').take (en - at')), v.2.2) := by
                        rw [Hrs.out, rr_field (t := fM) rfl (by rw [size_toList]; omega)]
                        rw [show most fM = 2 from rfl, dg2, dg1, ext_list, show at' + (en - at') = en by omega]
                        rfl
                      have hnb := nbR_yes dg3 _ rfl
                      rw [ext_list] at hnb
                      have Hnx := Lib.hid hnx
                      have Hnb := Lib.hid hnb
                      have Dg4 : (s.extract at' en).size ≤ 4 := by omega
                      clear hnx hnb dg1 dg2 dg3 dg4
                      go_wp2_with fail
                      refine (rnumber_any (s.extract at' en) Dg4 _).mono ?_
                      rintro e w5 ⟨rfl, rfl⟩
                      rw [Hnb.out]
                      go_wp2_with fail
                      go_roundw
                      case rel => exact ⟨k + 1, en, (v.1, val ((s.data.toList.drop at').take (en - at')), v.2.2), rfl, by go_num, hlt, by omega, Hnx, heap_set hO _, hst.frm (F := fun b => b = B) (set_frm _ _ _ _) hnB, hf.setCell (.inr hBn) _⟩
                      case measure => simp [intOf]; omega
                    · obtain ⟨dg1, dg2, dg3, dg4⟩ := Dg
                      have hnx : rr s.data.toList ps 0 (0, 0, 0) = rr s.data.toList (ps.drop (k + 1)) en (v.1, val ((s.data.toList.drop at').take (en - at')), v.2.2) := by
                        rw [Hrs.out, rr_field (t := fM) rfl (by rw [size_toList]; omega)]
                        rw [show most fM = 2 from rfl, dg2, dg1, ext_list, show at' + (en - at') = en by omega]
                        rfl
                      have hnb := nbR_yes dg3 _ rfl
                      rw [ext_list] at hnb
                      have Hnx := Lib.hid hnx
                      have Hnb := Lib.hid hnb
                      have Dg4 : (s.extract at' en).size ≤ 4 := by omega
                      clear hnx hnb dg1 dg2 dg3 dg4
                      go_wp2_with fail
                      refine (rnumber_any (s.extract at' en) Dg4 _).mono ?_
                      rintro e w5 ⟨rfl, rfl⟩
                      rw [Hnb.out]
                      go_wp2_with fail
                      go_roundw
                      case rel => exact ⟨k + 1, en, (v.1, val ((s.data.toList.drop at').take (en - at')), v.2.2), rfl, by go_num, hlt, by omega, Hnx, heap_set hO _, hst.frm (F := fun b => b = B) (set_frm _ _ _ _) hnB, hf.setCell (.inr hBn) _⟩
                      case measure => simp [intOf]; omega
          · have hno : rr s.data.toList ps 0 (0, 0, 0) = none := by rw [Hrs.out, rr_bad (t := fM) rfl (by rw [size_toList]; omega)]
            have hno2 : ∀ n, ¬ IsDay l.data.toList s.data.toList n := fun n hn => by
              obtain ⟨y, m, d, -, -, h⟩ := Hrd.out n hn
              rw [hno] at h
              cases h
            have Hno := Lib.hid hno2
            clear hno hno2
            go_wp2_with fail
            go_loop [12] (fun sx => sx = .int .i64 at') (fun _ => 0)
            case atStart => rfl
            case round =>
              obtain rfl := hrel
              go_wp2_with fail
              go_ret2
              exact ⟨.inl ⟨Hno.out, rfl⟩, hf⟩
        by_cases hfDD : t = fDD
        · subst hfDD
          have hc' : wo.cell? ⟨g, k, none⟩ = some (.string ⟨#[68, 68]⟩) := hc
          clear hc
          by_cases hat : at' ≤ s.size
          · go_wp2_with fail
            go_loop [12] (fun sx => ∃ en : Nat, sx = .int .i64 en ∧ at' ≤ en ∧ en ≤ at' + 2 ∧ en ≤ s.size ∧ Hid (((s.data.toList.drop at').take (en - at')).all digB = true)) (fun sx => s.size - (intOf sx).toNat)
            case atStart => exact ⟨at', rfl, Nat.le_refl _, by omega, hat, by rw [Nat.sub_self]; show _ = _; rfl⟩
            case round =>
              obtain ⟨en, rfl, en1, en2, en3, hal⟩ := hrel
              have way : (en < s.size ∧ en < at' + 2 ∧ ∃ h : en < s.size, digB s[en] = true) ∨ (en = at' + 2 ∨ en = s.size ∨ ∃ h : en < s.size, digB s[en] = false) := by
                by_cases c1 : en = s.size
                · exact .inr (.inr (.inl c1))
                · by_cases c2 : en = at' + 2
                  · exact .inr (.inl c2)
                  · cases hd : digB (s[en]'(by omega))
                    · exact .inr (.inr (.inr ⟨by omega, hd⟩))
                    · exact .inl ⟨by omega, by omega, by omega, hd⟩
              rcases way with ⟨c1, c2, c3, hd⟩ | way
              · have hnx := dgs_step s at' en en1 c1 hal.out hd
                have Hnx := Lib.hid hnx
                unfold digB at hd
                obtain ⟨d1, d2⟩ := of_decide_eq_true hd
                have d3 : (48 : Int) ≤ s[en].toNat := by omega
                have d4 : (s[en].toNat : Int) ≤ 57 := by omega
                have c4 : (en : Int) < (at' : Int) + 2 := by omega
                clear hnx hd hal
                go_wp2_with fail
                go_round
                case rel => exact ⟨en + 1, by go_num, by omega, by omega, c1, Hnx⟩
                case measure => simp [intOf]; omega
              · have Dg := dgs_drop s at' en 2 en1 en2 en3 hal.out way
                clear hal
                by_cases c1 : en = s.size
                · have c2 : ¬ ((en : Int) < (s.size : Int)) := by omega
                  clear way c1
                  obtain ⟨dg1, dg2, dg3, dg4⟩ := Dg
                  have hnx : rr s.data.toList ps 0 (0, 0, 0) = rr s.data.toList (ps.drop (k + 1)) en (v.1, v.2.1, val ((s.data.toList.drop at').take (en - at'))) := by
                    rw [Hrs.out, rr_field (t := fDD) rfl (by rw [size_toList]; omega)]
                    rw [show most fDD = 2 from rfl, dg2, dg1, ext_list, show at' + (en - at') = en by omega]
                    rfl
                  have hnb := nbR_yes dg3 _ rfl
                  rw [ext_list] at hnb
                  have Hnx := Lib.hid hnx
                  have Hnb := Lib.hid hnb
                  have Dg4 : (s.extract at' en).size ≤ 4 := by omega
                  clear hnx hnb dg1 dg2 dg3 dg4
                  go_wp2_with fail
                  refine (rnumber_any (s.extract at' en) Dg4 _).mono ?_
                  rintro e w5 ⟨rfl, rfl⟩
                  rw [Hnb.out]
                  go_wp2_with fail
                  go_roundw
                  case rel => exact ⟨k + 1, en, (v.1, v.2.1, val ((s.data.toList.drop at').take (en - at'))), rfl, by go_num, hlt, by omega, Hnx, heap_set hO _, hst.frm (F := fun b => b = B) (set_frm _ _ _ _) hnB, hf.setCell (.inr hBn) _⟩
                  case measure => simp [intOf]; omega
                · by_cases c2 : en = at' + 2
                  · have c3 : ¬ ((en : Int) < (at' : Int) + 2) := by omega
                    have c4 : (en : Int) < s.size := by omega
                    clear way c2 c1
                    obtain ⟨dg1, dg2, dg3, dg4⟩ := Dg
                    have hnx : rr s.data.toList ps 0 (0, 0, 0) = rr s.data.toList (ps.drop (k + 1)) en (v.1, v.2.1, val ((s.data.toList.drop at').take (en - at'))) := by
                      rw [Hrs.out, rr_field (t := fDD) rfl (by rw [size_toList]; omega)]
                      rw [show most fDD = 2 from rfl, dg2, dg1, ext_list, show at' + (en - at') = en by omega]
                      rfl
                    have hnb := nbR_yes dg3 _ rfl
                    rw [ext_list] at hnb
                    have Hnx := Lib.hid hnx
                    have Hnb := Lib.hid hnb
                    have Dg4 : (s.extract at' en).size ≤ 4 := by omega
                    clear hnx hnb dg1 dg2 dg3 dg4
                    go_wp2_with fail
                    refine (rnumber_any (s.extract at' en) Dg4 _).mono ?_
                    rintro e w5 ⟨rfl, rfl⟩
                    rw [Hnb.out]
                    go_wp2_with fail
                    go_roundw
                    case rel => exact ⟨k + 1, en, (v.1, v.2.1, val ((s.data.toList.drop at').take (en - at'))), rfl, by go_num, hlt, by omega, Hnx, heap_set hO _, hst.frm (F := fun b => b = B) (set_frm _ _ _ _) hnB, hf.setCell (.inr hBn) _⟩
                    case measure => simp [intOf]; omega
                  · have c3 : (en : Int) < (at' : Int) + 2 := by omega
                    obtain ⟨c4, hd⟩ : ∃ h : en < s.size, digB s[en] = false := by
                      rcases way with h | h | h
                      · exact absurd h c2
                      · exact absurd h c1
                      · exact h
                    unfold digB at hd
                    rw [decide_eq_false_iff_not] at hd
                    have hd2 : (s[en].toNat : Int) < 48 ∨ ((48 : Int) ≤ s[en].toNat ∧ 57 < (s[en].toNat : Int)) := by omega
                    clear way hd c1 c2
                    rcases hd2 with d1 | ⟨d1, d2⟩
                    · obtain ⟨dg1, dg2, dg3, dg4⟩ := Dg
                      have hnx : rr s.data.toList ps 0 (0, 0, 0) = rr s.data.toList (ps.drop (k + 1)) en (v.1, v.2.1, val ((s.data.toList.drop at').take (en - at'))) := by
                        rw [Hrs.out, rr_field (t := fDD) rfl (by rw [size_toList]; omega)]
                        rw [show most fDD = 2 from rfl, dg2, dg1, ext_list, show at' + (en - at') = en by omega]
                        rfl
                      have hnb := nbR_yes dg3 _ rfl
                      rw [ext_list] at hnb
                      have Hnx := Lib.hid hnx
                      have Hnb := Lib.hid hnb
                      have Dg4 : (s.extract at' en).size ≤ 4 := by omega
                      clear hnx hnb dg1 dg2 dg3 dg4
                      go_wp2_with fail
                      refine (rnumber_any (s.extract at' en) Dg4 _).mono ?_
                      rintro e w5 ⟨rfl, rfl⟩
                      rw [Hnb.out]
                      go_wp2_with fail
                      go_roundw
                      case rel => exact ⟨k + 1, en, (v.1, v.2.1, val ((s.data.toList.drop at').take (en - at'))), rfl, by go_num, hlt, by omega, Hnx, heap_set hO _, hst.frm (F := fun b => b = B) (set_frm _ _ _ _) hnB, hf.setCell (.inr hBn) _⟩
                      case measure => simp [intOf]; omega
                    · obtain ⟨dg1, dg2, dg3, dg4⟩ := Dg
                      have hnx : rr s.data.toList ps 0 (0, 0, 0) = rr s.data.toList (ps.drop (k + 1)) en (v.1, v.2.1, val ((s.data.toList.drop at').take (en - at'))) := by
                        rw [Hrs.out, rr_field (t := fDD) rfl (by rw [size_toList]; omega)]
                        rw [show most fDD = 2 from rfl, dg2, dg1, ext_list, show at' + (en - at') = en by omega]
                        rfl
                      have hnb := nbR_yes dg3 _ rfl
                      rw [ext_list] at hnb
                      have Hnx := Lib.hid hnx
                      have Hnb := Lib.hid hnb
                      have Dg4 : (s.extract at' en).size ≤ 4 := by omega
                      clear hnx hnb dg1 dg2 dg3 dg4
                      go_wp2_with fail
                      refine (rnumber_any (s.extract at' en) Dg4 _).mono ?_
                      rintro e w5 ⟨rfl, rfl⟩
                      rw [Hnb.out]
                      go_wp2_with fail
                      go_roundw
                      case rel => exact ⟨k + 1, en, (v.1, v.2.1, val ((s.data.toList.drop at').take (en - at'))), rfl, by go_num, hlt, by omega, Hnx, heap_set hO _, hst.frm (F := fun b => b = B) (set_frm _ _ _ _) hnB, hf.setCell (.inr hBn) _⟩
                      case measure => simp [intOf]; omega
          · have hno : rr s.data.toList ps 0 (0, 0, 0) = none := by rw [Hrs.out, rr_bad (t := fDD) rfl (by rw [size_toList]; omega)]
            have hno2 : ∀ n, ¬ IsDay l.data.toList s.data.toList n := fun n hn => by
              obtain ⟨y, m, d, -, -, h⟩ := Hrd.out n hn
              rw [hno] at h
              cases h
            have Hno := Lib.hid hno2
            clear hno hno2
            go_wp2_with fail
            go_loop [12] (fun sx => sx = .int .i64 at') (fun _ => 0)
            case atStart => rfl
            case round =>
              obtain rfl := hrel
              go_wp2_with fail
              go_ret2
              exact ⟨.inl ⟨Hno.out, rfl⟩, hf⟩
        by_cases hfD : t = fD
        · subst hfD
          have hc' : wo.cell? ⟨g, k, none⟩ = some (.string ⟨#[68]⟩) := hc
          clear hc
          by_cases hat : at' ≤ s.size
          · go_wp2_with fail
            go_loop [12] (fun sx => ∃ en : Nat, sx = .int .i64 en ∧ at' ≤ en ∧ en ≤ at' + 2 ∧ en ≤ s.size ∧ Hid (((s.data.toList.drop at').take (en - at')).all digB = true)) (fun sx => s.size - (intOf sx).toNat)
            case atStart => exact ⟨at', rfl, Nat.le_refl _, by omega, hat, by rw [Nat.sub_self]; show _ = _; rfl⟩
            case round =>
              obtain ⟨en, rfl, en1, en2, en3, hal⟩ := hrel
              have way : (en < s.size ∧ en < at' + 2 ∧ ∃ h : en < s.size, digB s[en] = true) ∨ (en = at' + 2 ∨ en = s.size ∨ ∃ h : en < s.size, digB s[en] = false) := by
                by_cases c1 : en = s.size
                · exact .inr (.inr (.inl c1))
                · by_cases c2 : en = at' + 2
                  · exact .inr (.inl c2)
                  · cases hd : digB (s[en]'(by omega))
                    · exact .inr (.inr (.inr ⟨by omega, hd⟩))
                    · exact .inl ⟨by omega, by omega, by omega, hd⟩
              rcases way with ⟨c1, c2, c3, hd⟩ | way
              · have hnx := dgs_step s at' en en1 c1 hal.out hd
                have Hnx := Lib.hid hnx
                unfold digB at hd
                obtain ⟨d1, d2⟩ := of_decide_eq_true hd
                have d3 : (48 : Int) ≤ s[en].toNat := by omega
                have d4 : (s[en].toNat : Int) ≤ 57 := by omega
                have c4 : (en : Int) < (at' : Int) + 2 := by omega
                clear hnx hd hal
                go_wp2_with fail
                go_round
                case rel => exact ⟨en + 1, by go_num, by omega, by omega, c1, Hnx⟩
                case measure => simp [intOf]; omega
              · have Dg := dgs_drop s at' en 2 en1 en2 en3 hal.out way
                clear hal
                by_cases c1 : en = s.size
                · have c2 : ¬ ((en : Int) < (s.size : Int)) := by omega
                  clear way c1
                  obtain ⟨dg1, dg2, dg3, dg4⟩ := Dg
                  have hnx : rr s.data.toList ps 0 (0, 0, 0) = rr s.data.toList (ps.drop (k + 1)) en (v.1, v.2.1, val ((s.data.toList.drop at').take (en - at'))) := by
                    rw [Hrs.out, rr_field (t := fD) rfl (by rw [size_toList]; omega)]
                    rw [show most fD = 2 from rfl, dg2, dg1, ext_list, show at' + (en - at') = en by omega]
                    rfl
                  have hnb := nbR_yes dg3 _ rfl
                  rw [ext_list] at hnb
                  have Hnx := Lib.hid hnx
                  have Hnb := Lib.hid hnb
                  have Dg4 : (s.extract at' en).size ≤ 4 := by omega
                  clear hnx hnb dg1 dg2 dg3 dg4
                  go_wp2_with fail
                  refine (rnumber_any (s.extract at' en) Dg4 _).mono ?_
                  rintro e w5 ⟨rfl, rfl⟩
                  rw [Hnb.out]
                  go_wp2_with fail
                  go_roundw
                  case rel => exact ⟨k + 1, en, (v.1, v.2.1, val ((s.data.toList.drop at').take (en - at'))), rfl, by go_num, hlt, by omega, Hnx, heap_set hO _, hst.frm (F := fun b => b = B) (set_frm _ _ _ _) hnB, hf.setCell (.inr hBn) _⟩
                  case measure => simp [intOf]; omega
                · by_cases c2 : en = at' + 2
                  · have c3 : ¬ ((en : Int) < (at' : Int) + 2) := by omega
                    have c4 : (en : Int) < s.size := by omega
                    clear way c2 c1
                    obtain ⟨dg1, dg2, dg3, dg4⟩ := Dg
                    have hnx : rr s.data.toList ps 0 (0, 0, 0) = rr s.data.toList (ps.drop (k + 1)) en (v.1, v.2.1, val ((s.data.toList.drop at').take (en - at'))) := by
                      rw [Hrs.out, rr_field (t := fD) rfl (by rw [size_toList]; omega)]
                      rw [show most fD = 2 from rfl, dg2, dg1, ext_list, show at' + (en - at') = en by omega]
                      rfl
                    have hnb := nbR_yes dg3 _ rfl
                    rw [ext_list] at hnb
                    have Hnx := Lib.hid hnx
                    have Hnb := Lib.hid hnb
                    have Dg4 : (s.extract at' en).size ≤ 4 := by omega
                    clear hnx hnb dg1 dg2 dg3 dg4
                    go_wp2_with fail
                    refine (rnumber_any (s.extract at' en) Dg4 _).mono ?_
                    rintro e w5 ⟨rfl, rfl⟩
                    rw [Hnb.out]
                    go_wp2_with fail
                    go_roundw
                    case rel => exact ⟨k + 1, en, (v.1, v.2.1, val ((s.data.toList.drop at').take (en - at'))), rfl, by go_num, hlt, by omega, Hnx, heap_set hO _, hst.frm (F := fun b => b = B) (set_frm _ _ _ _) hnB, hf.setCell (.inr hBn) _⟩
                    case measure => simp [intOf]; omega
                  · have c3 : (en : Int) < (at' : Int) + 2 := by omega
                    obtain ⟨c4, hd⟩ : ∃ h : en < s.size, digB s[en] = false := by
                      rcases way with h | h | h
                      · exact absurd h c2
                      · exact absurd h c1
                      · exact h
                    unfold digB at hd
                    rw [decide_eq_false_iff_not] at hd
                    have hd2 : (s[en].toNat : Int) < 48 ∨ ((48 : Int) ≤ s[en].toNat ∧ 57 < (s[en].toNat : Int)) := by omega
                    clear way hd c1 c2
                    rcases hd2 with d1 | ⟨d1, d2⟩
                    · obtain ⟨dg1, dg2, dg3, dg4⟩ := Dg
                      have hnx : rr s.data.toList ps 0 (0, 0, 0) = rr s.data.toList (ps.drop (k + 1)) en (v.1, v.2.1, val ((s.data.toList.drop at').take (en - at'))) := by
                        rw [Hrs.out, rr_field (t := fD) rfl (by rw [size_toList]; omega)]
                        rw [show most fD = 2 from rfl, dg2, dg1, ext_list, show at' + (en - at') = en by omega]
                        rfl
                      have hnb := nbR_yes dg3 _ rfl
                      rw [ext_list] at hnb
                      have Hnx := Lib.hid hnx
                      have Hnb := Lib.hid hnb
                      have Dg4 : (s.extract at' en).size ≤ 4 := by omega
                      clear hnx hnb dg1 dg2 dg3 dg4
                      go_wp2_with fail
                      refine (rnumber_any (s.extract at' en) Dg4 _).mono ?_
                      rintro e w5 ⟨rfl, rfl⟩
                      rw [Hnb.out]
                      go_wp2_with fail
                      go_roundw
                      case rel => exact ⟨k + 1, en, (v.1, v.2.1, val ((s.data.toList.drop at').take (en - at'))), rfl, by go_num, hlt, by omega, Hnx, heap_set hO _, hst.frm (F := fun b => b = B) (set_frm _ _ _ _) hnB, hf.setCell (.inr hBn) _⟩
                      case measure => simp [intOf]; omega
                    · obtain ⟨dg1, dg2, dg3, dg4⟩ := Dg
                      have hnx : rr s.data.toList ps 0 (0, 0, 0) = rr s.data.toList (ps.drop (k + 1)) en (v.1, v.2.1, val ((s.data.toList.drop at').take (en - at'))) := by
                        rw [Hrs.out, rr_field (t := fD) rfl (by rw [size_toList]; omega)]
                        rw [show most fD = 2 from rfl, dg2, dg1, ext_list, show at' + (en - at') = en by omega]
                        rfl
                      have hnb := nbR_yes dg3 _ rfl
                      rw [ext_list] at hnb
                      have Hnx := Lib.hid hnx
                      have Hnb := Lib.hid hnb
                      have Dg4 : (s.extract at' en).size ≤ 4 := by omega
                      clear hnx hnb dg1 dg2 dg3 dg4
                      go_wp2_with fail
                      refine (rnumber_any (s.extract at' en) Dg4 _).mono ?_
                      rintro e w5 ⟨rfl, rfl⟩
                      rw [Hnb.out]
                      go_wp2_with fail
                      go_roundw
                      case rel => exact ⟨k + 1, en, (v.1, v.2.1, val ((s.data.toList.drop at').take (en - at'))), rfl, by go_num, hlt, by omega, Hnx, heap_set hO _, hst.frm (F := fun b => b = B) (set_frm _ _ _ _) hnB, hf.setCell (.inr hBn) _⟩
                      case measure => simp [intOf]; omega
          · have hno : rr s.data.toList ps 0 (0, 0, 0) = none := by rw [Hrs.out, rr_bad (t := fD) rfl (by rw [size_toList]; omega)]
            have hno2 : ∀ n, ¬ IsDay l.data.toList s.data.toList n := fun n hn => by
              obtain ⟨y, m, d, -, -, h⟩ := Hrd.out n hn
              rw [hno] at h
              cases h
            have Hno := Lib.hid hno2
            clear hno hno2
            go_wp2_with fail
            go_loop [12] (fun sx => sx = .int .i64 at') (fun _ => 0)
            case atStart => rfl
            case round =>
              obtain rfl := hrel
              go_wp2_with fail
              go_ret2
              exact ⟨.inl ⟨Hno.out, rfl⟩, hf⟩
        have hnf : isF t = false := by
          unfold isF
          simp only [Bool.or_eq_false_iff, beq_eq_false_iff_ne]
          exact ⟨⟨⟨⟨hfY, hfMM⟩, hfM⟩, hfDD⟩, hfD⟩
        have hnx : rr s.data.toList ps 0 (0, 0, 0) = rr s.data.toList (ps.drop (k + 1)) (at' + 1) v := by rw [Hrs.out, rr_lit hnf]
        have Hnx := Lib.hid hnx
        unfold strV at hc
        obtain ⟨Y, hY⟩ : ∃ Y : ByteArray, Y = ⟨t.toArray⟩ := ⟨_, rfl⟩
        rw [← hY] at hc
        have t0 := ne_lit hY [89, 89, 89, 89] hfY
        have t1 := ne_lit hY [77, 77] hfMM
        have t2 := ne_lit hY [77] hfM
        have t3 := ne_lit hY [68, 68] hfDD
        have t4 := ne_lit hY [68] hfD
        clear hnf hnx hY hfY hfMM hfM hfDD hfD
        go_wp2_with fail
        go_roundw
        case rel => exact ⟨k + 1, at' + 1, v, by go_num, by go_num, hlt, by omega, Hnx, hO, hst, hf⟩
        case measure => simp [intOf]; omega
      · obtain rfl : k = ps.length := by omega
        have hrs := hrr.out
        rw [List.drop_length, rr] at hrs
        have Hrs := Lib.hid hrs
        obtain ⟨q0, q1, q2, z0, z1, z2⟩ := cells3' hO
        obtain ⟨N, b, hn1, hn2⟩ := num_shape (v.1 : Nat) (v.2.1 : Nat) (v.2.2 : Nat)
        have Hn1 := Lib.hid hn1
        have Hn2 := Lib.hid hn2
        clear hrs hrr hform hlt hn1 hn2 hst hO hnB hat0
        go_wp2_with fail
        refine (rnum_any (v.1 : Nat) (v.2.1 : Nat) (v.2.2 : Nat) _).mono ?_
        rintro e w5 ⟨rfl, rfl⟩
        rw [Hn1.out]
        cases b
        · have hno : ∀ n, ¬ IsDay l.data.toList s.data.toList n := by
            intro n hn
            obtain ⟨y, m, d, hc, -, h2⟩ := Hrd.out n hn
            rw [Hrs.out] at h2
            injection h2 with h2
            rw [h2] at Hn2
            have h3 := Hn2.out
            dsimp only at h3
            rw [hc.1] at h3
            cases h3
          have Hno := Lib.hid hno
          clear hno q0 q1 q2 z0 z1 z2
          go_wp2_with fail
          go_ret2
          exact ⟨.inl ⟨Hno.out, rfl⟩, hf⟩
        · have hciv : Civ N (v.1 : Nat) (v.2.1 : Nat) (v.2.2 : Nat) := by
            refine ⟨Hn2.out, ?_⟩
            have h1 := Hn1.out
            unfold numR at h1
            rw [if_pos Hn2.out] at h1
            injection h1 with h1
            simpa using h1
          have Hciv := Lib.hid hciv
          clear hciv q0 q1 q2 z0 z1 z2
          go_wp2_with fail
          refine (rformat_any l N _).mono ?_
          rintro e w6 ⟨hfm, f6⟩
          rcases hfm with ⟨hno, rfl⟩ | ⟨-, y, m, d, hc, rfl⟩
          · rw [in_iff.2 Hciv.out.bd, Hr.out] at hno
            cases hno
          · obtain ⟨e1, e2, e3⟩ := hc.uniq Hciv.out
            have e1' : y = v.1 := by omega
            have e2' : m = v.2.1 := by omega
            have e3' : d = v.2.2 := by omega
            have Hc := Lib.hid hc
            have hf6 := hf.trans f6
            clear e1 e2 e3 hc f6 hf Hciv Hn1 Hn2
            unfold strV
            obtain ⟨X, hX⟩ : ∃ X : ByteArray, X = ⟨(fmtL y m d l.data.toList).toArray⟩ := ⟨_, rfl⟩
            have hXl : X.data.toList = fmtL y m d l.data.toList := by rw [hX]
            have HXl := Lib.hid hXl
            rw [← hX]
            have He : Hid (y = v.1 ∧ m = v.2.1 ∧ d = v.2.2) := ⟨e1', e2', e3'⟩
            clear hX hXl e1' e2' e3'
            by_cases hXt : X = s
            · have hne : (X.toList == s.toList) = true := by rw [hXt]; simp
              have hne2 : (X.toList != s.toList) = false := by rw [hXt]; simp
              have HXt := Lib.hid hXt
              clear hXt
              go_wp2_with fail
              go_ret2
              exact ⟨.inr ⟨N, ⟨Hr.out, y, m, d, Hc.out, by rw [← HXl.out, HXt.out]⟩, rfl⟩, hf6⟩
            · have hn0 : ¬ X.toList = s.toList := fun e => hXt (WideShapes.bytes_inj (by rw [← toList_data, ← toList_data]; exact e))
              have hne : (X.toList == s.toList) = false := beq_eq_false_iff_ne.2 hn0
              have hne2 : (X.toList != s.toList) = true := bne_iff_ne.2 hn0
              clear hn0
              have HXt := Lib.hid hXt
              clear hXt
              go_wp2_with fail
              go_ret2
              refine ⟨.inl ⟨?_, rfl⟩, hf6⟩
              intro n hn
              obtain ⟨y', m', d', -, htx, h2⟩ := Hrd.out n hn
              rw [Hrs.out] at h2
              injection h2 with h2
              rw [h2] at He
              obtain ⟨q1, q2, q3⟩ := He.out
              dsimp only at q1 q2 q3
              refine HXt.out (WideShapes.bytes_inj ?_)
              rw [HXl.out, q1, q2, q3, htx]
end Go.Proofs.YtmpfgdpicbpedaaDoor
