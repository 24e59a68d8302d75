/-
  The reference's ends, Matches: what the code does. Conditions: the pieces are right, the text is short.
-/
import Derived.Test.YtgnjakaamgeibaaDoorRch
import Derived.Test.YtgnjakaamgeibaaDoorRRgt
import Derived.Test.YtgnjakaamgeibaaDoorCov
namespace Go.Proofs.YtgnjakaamgeibaaDoor
open Go.RowKit Go.Shelf
attribute [local go_sem] Oper.semAt_some

def valsB (n : Nat) (f : Nat → Bool) : Array Value := ((List.range (n + 1)).map fun j => Value.bool (f j)).toArray
theorem valsB_size (n : Nat) (f : Nat → Bool) : (valsB n f).size = n + 1 := by simp [valsB]
theorem valsB_at {n j : Nat} (f : Nat → Bool) (h : j ≤ n) : (valsB n f)[j]? = some (.bool (f j)) := by
  unfold valsB
  rw [List.getElem?_toArray, List.getElem?_map, List.getElem?_range (by omega)]
  rfl
theorem valsB_congr {n : Nat} {f g : Nat → Bool} (h : ∀ j, j ≤ n → f j = g j) : valsB n f = valsB n g := by
  unfold valsB
  congr 1
  refine List.map_congr_left fun j hj => ?_
  rw [h j (by have := List.mem_range.1 hj; omega)]
theorem valsB_set {n : Nat} {f g : Nat → Bool} (i : Nat) (v : Bool) (h : ∀ j, j ≤ n → g j = if j = i then v else f j) : (valsB n f).setIfInBounds i (.bool v) = valsB n g := by
  refine Array.ext_getElem? fun j => ?_
  rw [Array.getElem?_setIfInBounds]
  by_cases hj : j ≤ n
  · rw [valsB_at _ hj, valsB_at _ hj, h j hj]
    by_cases e : j = i
    · subst e
      rw [if_pos rfl, if_pos rfl, valsB_size, if_pos (by omega)]
    · rw [if_neg (fun h => e h.symm), if_neg e]
  · have h1 : ∀ g, (valsB n g)[j]? = none := fun g => Array.getElem?_eq_none (by rw [valsB_size]; omega)
    rw [h1, h1, valsB_size]
    by_cases e : i = j
    · rw [if_pos e, if_neg (by omega)]
    · rw [if_neg e]
theorem Own.bools {w0 w : World} {L : List Thing} (h : Own w0 L w) {x n j : Nat} {f : Nat → Bool} (i : Nat) (hi : L[i]? = some (cellT x (valsB n f) 4)) (hj : j ≤ n) : w.cell? ⟨x, j, none⟩ = some (.bool (f j)) ∧ w.frozen? ⟨x, j, none⟩ = false :=
  ⟨by rw [cell_of_row w x j _ _ _ (h.obj i hi)]; exact valsB_at f hj, frozen_of_row w x j _ _ (h.obj i hi)⟩
theorem made_bools (n : Nat) : madeCells #[Value.bool false] (n + 1) = valsB n fun _ => false := by
  refine Array.ext' ?_
  rw [toList_madeCells_one]
  unfold valsB
  simp [List.map_const']
theorem make_bools (n : Nat) (hn : n ≤ 100000) (w : World) : (Instr.makeSlice 100 (.int .i64 ((n : Int) + 1)) (.int .i64 ((n : Int) + 1))).run Tryd.prog w = .ok (.slice (some ⟨w.heap.size, 0, none⟩) (n + 1) (n + 1)) (w.alloc (.cells (valsB n fun _ => false) 4)) := by
  have := run_make_row' (P := Tryd.prog) 100 4 (.bool false) 1 Tryd.underlying100 (by kernel_rfl) rfl .i64 .i64 (n + 1) (by omega) (by omega) w
  rw [show ((n + 1 : Nat) : Int) = (n : Int) + 1 by omega, made_bools] at this
  exact this

set_option maxRecDepth 100000 in
set_option maxHeartbeats 8000000 in
theorem rends_any {v : Value} {ps : List Pc} (w : World) (s : ByteArray) (fr : Nat) (hP : Pcs w v ps) (hr : ∀ p ∈ ps, pieceB p = true) (hsm : Small ps) (hn : ps.length ≤ 1000) (hs : s.size ≤ 200) (hch : chrs s.data.toList = true) (hfr : fr ≤ s.size) :
    Calls Tryd.prog 87 #[v, .string s, .int .i64 fr] w fun e w' => ∃ b, e = .returned (.slice (some ⟨b, 0, none⟩) (s.size + 1) (s.size + 1)) ∧ w'.heap[b]? = some (.cells (valsB s.size (reachB ps s.data.toList fr)) 4 (0, 0)) ∧ w.heap.size ≤ b ∧ Frm (fun _ => False) w w' := by
  obtain ⟨ao, cap, rfl⟩ := hP.form
  have hl := size_list s
  have hmk := make_bools s.size (by omega)
  have HP := Lib.hid hP
  have hfr' : (fr : Int) < (s.size : Int) + 1 := by omega
  have h0 := (Own.start w).box (valsB s.size fun _ => false) 4
  have z0 := (h0.bools (x := w.heap.size) (n := s.size) (f := fun _ => false) (j := fr) 0 rfl hfr)
  have heq := valsB_set (n := s.size) (f := fun _ => false) (g := reachB (ps.take 0) s.data.toList fr) fr true (fun j hj => by
    rw [List.take_zero, reach_nil (by omega)]
    by_cases e : j = fr
    · rw [if_pos e, decide_eq_true e]
    · rw [if_neg e, decide_eq_false e])
  have Heq := Lib.hid heq
  obtain ⟨z1, z2⟩ := z0
  have Hch := Lib.hid hch
  clear hP h0 heq hch
  go_enter Tryd.func87, Tryd.ntmps87
  go_wp2_with fail
  rw [Heq.out]
  obtain ⟨W1, hW1⟩ : ∃ W, W = w.alloc (.cells (valsB s.size (reachB (ps.take 0) s.data.toList fr)) 4) := ⟨_, rfl⟩
  obtain ⟨a, ha⟩ : ∃ b, b = w.heap.size := ⟨_, rfl⟩
  have h1 := (Own.start w).box (valsB s.size (reachB (ps.take 0) s.data.toList fr)) 4
  rw [← hW1, ← ha] at h1
  rw [← hW1, ← ha]
  have hle : w.heap.size ≤ a := by omega
  have H1' := Lib.hid h1
  clear h1 hW1 ha z1 z2
  go_loopw [7, 8] (fun va si wr => ∃ (a i : Nat), va = .slice (some ⟨a, 0, none⟩) (s.size + 1) (s.size + 1) ∧ si = .int .i64 i ∧ i ≤ ps.length ∧ w.heap.size ≤ a ∧ Hid (Own w [cellT a (valsB s.size (reachB (ps.take i) s.data.toList fr)) 4] wr)) (fun _ si _ => ps.length - (intOf si).toNat)
  case atStart => exact ⟨a, 0, rfl, rfl, Nat.zero_le _, hle, H1'⟩
  case round =>
    clear H1' hle
    obtain ⟨a, i, rfl, rfl, hi, hle, hO⟩ := hrel
    by_cases hlt : i < ps.length
    · have hlt' : (i : Int) < (ps.length : Int) := by omega
      have hO1 := hO.out.box (valsB s.size fun _ => false) 4
      have hpp := hr _ (List.getElem_mem hlt)
      have hps := hsm.at hlt
      have htk : ps.take (i + 1) = ps.take i ++ [ps[i]] := List.take_succ_eq_append_getElem hlt
      obtain ⟨now, hnow⟩ : ∃ now, now = reachB (ps.take i) s.data.toList fr := ⟨_, rfl⟩
      have hfull : ∀ m, m ≤ s.size → rstep ps[i] s.data.toList now (s.size + 1) m = reachB (ps.take (i + 1)) s.data.toList fr m := fun m hm => by
        rw [htk, ← rs_full (by omega), hl, hnow]
      rw [← hnow] at hO1
      have hle2 : w.heap.size ≤ wr.heap.size := hO.out.frm.size
      have Hfull := Lib.hid hfull
      have HPI : ∀ W, Frm (fun _ => False) w W → ∃ g, ao = some ⟨g, 0, none⟩ ∧ PcAt W g (i * 4) ps[i] := fun W f => by
        obtain ⟨g, h1, h2, -⟩ := (HP.out.still f).at' i hlt
        exact ⟨g, h1, h2⟩
      have HPI := Lib.hid HPI
      clear hO hnow hfull htk
      generalize hpi : ps[i] = e at *
      clear hpi
      go_wp2_with fail
      obtain ⟨W2, hW2⟩ : ∃ W, W = wr.alloc (.cells (valsB s.size fun _ => false) 4) := ⟨_, rfl⟩
      obtain ⟨b, hb⟩ : ∃ b, b = wr.heap.size := ⟨_, rfl⟩
      rw [← hW2, ← hb] at hO1 ⊢
      rw [← hb] at hle2
      have HO2 : Hid (Own w [cellT a (valsB s.size now) 4, cellT b (valsB s.size (rstep e s.data.toList now 0)) 4] W2) := Lib.hid hO1
      clear hO1 hW2 hb
      go_loopw [10] (fun sk wr => ∃ k : Nat, sk = .int .i64 k ∧ k ≤ s.size + 1 ∧ Hid (Own w [cellT a (valsB s.size now) 4, cellT b (valsB s.size (rstep e s.data.toList now k)) 4] wr)) (fun sk _ => s.size + 1 - (intOf sk).toNat)
      case atStart => exact ⟨0, rfl, Nat.zero_le _, HO2⟩
      case round =>
        clear HO2
        obtain ⟨k, rfl, hk, hO⟩ := hrel
        by_cases hks : k ≤ s.size
        · have hks' : (k : Int) ≤ (s.size : Int) := by omega
          have hkn : (k : Int) < (s.size : Int) + 1 := by omega
          have cn := (hO.out.bools (x := a) (n := s.size) (f := now) (j := k) 0 rfl hks).1
          cases hnk : now k
          · rw [hnk] at cn
            have hO2 := hO.out
            rw [valsB_congr (f := rstep e s.data.toList now k) (g := rstep e s.data.toList now (k + 1)) (fun m _ => (rs_no hnk m).symm)] at hO2
            have HO2 := Lib.hid hO2
            clear hO hO2 hnk
            go_wp2_with fail
            go_roundw
            case rel => exact ⟨k + 1, by go_num, by omega, HO2⟩
            case measure => simp [intOf]; omega
          · rw [hnk] at cn
            obtain ⟨g, hao, ⟨c0, c1, c2, c3⟩⟩ := HPI.out _ hO.out.frm
            subst hao
            have Hnk := Lib.hid hnk
            clear hnk
            by_cases hc : e.cls = 0
            · rw [hc] at c0
              have hlit := fun m (hm : m ≤ s.size) => rs_lit (e := e) (s := s.data.toList) (now := now) (k := k) hc Hnk.out (by omega) (m := m) (by omega)
              have htl := size_list e.txt
              by_cases hen : k + e.txt.size ≤ s.size
              · have hen' : (k : Int) + (e.txt.size : Int) ≤ (s.size : Int) := by omega
                have hen'' : (k : Int) + (e.txt.size : Int) < (s.size : Int) + 1 := by omega
                have hee : s.data.toList.drop k = (s.extract k (k + e.txt.size)).data.toList ++ s.data.toList.drop (k + e.txt.size) := by
                  rw [ext_toList, List.drop_take]
                  rw [show k + e.txt.size - k = e.txt.size by omega, ← List.drop_drop, List.take_append_drop]
                have hel : (s.extract k (k + e.txt.size)).data.toList.length = e.txt.size := by rw [ext_toList, List.length_drop, List.length_take, hl]; omega
                have hpre : e.t <+: s.data.toList.drop k ↔ (s.extract k (k + e.txt.size)).data.toList = e.txt.data.toList := by
                  constructor
                  · intro h
                    have := List.prefix_of_prefix_length_le h (hee ▸ List.prefix_append _ _ : (s.extract k (k + e.txt.size)).data.toList <+: s.data.toList.drop k) (by rw [hel, htl]; exact Nat.le_refl _)
                    exact (this.eq_of_length (by rw [hel, htl])).symm
                  · intro h
                    rw [hee, h]
                    exact List.prefix_append _ _
                obtain ⟨z3, z4⟩ := hO.out.bools (x := b) (n := s.size) (f := rstep e s.data.toList now k) (j := k + e.txt.size) 1 rfl hen
                have hwk : IntKind.i64.wrap ((k : Int) + e.txt.size) = (k : Int) + e.txt.size := IntWalk.i64_in _ (by omega)
                have hsl := run_slice_string (P := Tryd.prog) W2 9 s .i64 .i64 (k : Int) ((k : Int) + e.txt.size) Tryd.underlying9 (by omega) (by omega) (by omega)
                have hslW : ∀ W, (Instr.slice 9 (.string s) (some (.int .i64 (k : Int))) (some (.int .i64 ((k : Int) + (e.txt.size : Int)))) none).run Tryd.prog W = .ok (.string (s.extract k (k + e.txt.size))) W := fun W => by
                  have := run_slice_string (P := Tryd.prog) W 9 s .i64 .i64 (k : Int) ((k : Int) + e.txt.size) Tryd.underlying9 (by omega) (by omega) (by omega)
                  rw [this, Int.toNat_natCast, show ((k : Int) + (e.txt.size : Int)).toNat = k + e.txt.size by omega]
                clear hsl
                by_cases heq : (s.extract k (k + e.txt.size)).data.toList = e.txt.data.toList
                · have hb1 : ((s.extract k (k + e.txt.size)).toList == e.txt.toList) = true := by rw [str_eq2, heq]; exact beq_self_eq_true _
                  have hst := valsB_set (n := s.size) (f := rstep e s.data.toList now k) (g := rstep e s.data.toList now (k + 1)) (k + e.txt.size) true (fun m hm => by
                    rw [hlit m hm, htl]
                    by_cases e1 : m = k + e.txt.size
                    · rw [if_pos e1, if_pos ⟨hpre.2 heq, e1⟩]
                    · rw [if_neg e1, if_neg (fun h => e1 h.2)])
                  have Hst := Lib.hid hst
                  have HSL := hslW
                  clear hst hlit hpre hee hel heq htl
                  go_upto_region 13 with fail
                  go_quiet (fail)
                  have hO2 := (hO.out.drewN nq).store (x := b) (cs := valsB s.size (rstep e s.data.toList now k)) (t := 4) 1 rfl (k + e.txt.size) (.bool true)
                  rw [Hst.out] at hO2
                  have HO2 : Hid (Own w [cellT a (valsB s.size now) 4, cellT b (valsB s.size (rstep e s.data.toList now (k + 1))) 4] ((wr.drewN nq).setCell ⟨b, k + e.txt.size, none⟩ (.bool true))) := Lib.hid hO2
                  clear hO hO2
                  go_wp2_with fail
                  go_roundw
                  case rel => exact ⟨k + 1, by go_num, by omega, HO2⟩
                  case measure => simp [intOf]; omega
                · have hb1 : ((s.extract k (k + e.txt.size)).toList == e.txt.toList) = false := by rw [str_eq2, beq_eq_false_iff_ne]; exact heq
                  have hcg := valsB_congr (f := rstep e s.data.toList now k) (g := rstep e s.data.toList now (k + 1)) (fun m hm => by rw [hlit m hm, if_neg (fun h => heq (hpre.1 h.1))])
                  have Hcg := Lib.hid hcg
                  clear hcg hlit hpre hee hel heq htl z3 z4
                  go_upto_region 13 with fail
                  go_quiet (fail)
                  have hO2 := hO.out.drewN nq
                  rw [Hcg.out] at hO2
                  have HO2 := Lib.hid hO2
                  clear hO hO2
                  go_wp2_with fail
                  go_roundw
                  case rel => exact ⟨k + 1, by go_num, by omega, HO2⟩
                  case measure => simp [intOf]; omega
              · have hen' : ¬ ((k : Int) + (e.txt.size : Int) ≤ (s.size : Int)) := by omega
                have hwk : IntKind.i64.wrap ((k : Int) + e.txt.size) = (k : Int) + e.txt.size := IntWalk.i64_in _ (by omega)
                have hcg := valsB_congr (f := rstep e s.data.toList now k) (g := rstep e s.data.toList now (k + 1)) (fun m hm => by rw [hlit m hm, if_neg (fun h => by have := h.1.length_le; rw [htl, List.length_drop, hl] at this; omega)])
                have Hcg := Lib.hid hcg
                clear hcg hlit htl
                go_upto_region 13 with fail
                go_quiet (fail)
                have hO2 := hO.out.drewN nq
                rw [Hcg.out] at hO2
                have HO2 := Lib.hid hO2
                clear hO hO2
                go_wp2_with fail
                go_roundw
                case rel => exact ⟨k + 1, by go_num, by omega, HO2⟩
                case measure => simp [intOf]; omega
            · have hne : (e.cls == 0) = false := by rw [beq_eq_false_iff_ne]; exact hc
              obtain ⟨r1, r7, r0, rle, rh1, rh, -⟩ := run_facts hpp hc
              have HO3 : Hid (Own w [cellT a (valsB s.size now) 4, cellT b (valsB s.size (rrun e s.data.toList now k 0)) 4] wr) := by
                have := hO.out
                rw [valsB_congr (f := rstep e s.data.toList now k) (g := rrun e s.data.toList now k 0) (fun m _ => (rr_zero e _ now k m).symm)] at this
                exact Lib.hid this
              clear hO
              go_wp2_with fail
              go_loopw [12] (fun sk wr => ∃ n0 : Nat, sk = .int .i64 n0 ∧ k + n0 ≤ s.size + 1 ∧ (n0 : Int) ≤ e.hi + 1 ∧ Hid (consB (seg s.data.toList k (k + (n0 - 1))) e.cls = true) ∧ Hid (Own w [cellT a (valsB s.size now) 4, cellT b (valsB s.size (rrun e s.data.toList now k n0)) 4] wr)) (fun sk _ => s.size + 1 - (intOf sk).toNat)
              case atStart => exact ⟨0, rfl, by omega, by omega, Lib.hid (by show consB (seg s.data.toList k k) e.cls = true; rw [seg_nil]; rfl), HO3⟩
              case round =>
                clear HO3 c0 c1 c2 c3 cn
                obtain ⟨n0, rfl, hn0, hnh, hcs, hO⟩ := hrel
                obtain ⟨g', hao', ⟨c0, c1, c2, c3⟩⟩ := HPI.out _ hO.out.frm
                injection hao' with hao'
                injection hao' with hao' _ _
                subst hao'
                have hwk : IntKind.i64.wrap ((k : Int) + n0) = (k : Int) + n0 := IntWalk.i64_in _ (by omega)
                by_cases hh : (n0 : Int) ≤ e.hi
                · by_cases hkn0 : k + n0 ≤ s.size
                  · have hkI : (k : Int) + (n0 : Int) ≤ (s.size : Int) := by omega
                    by_cases hz : n0 = 0
                    · subst hz
                      have hc0 : consB (seg s.data.toList k k) e.cls = true := by rw [seg_nil]; rfl
                      go_upto_region 18 with fail
                      go_quiet (fail)
                      have hOd := hO.out.drewN nq
                      have hf := run_fits (e := e) (s := s.data.toList) (i := k) (t := k) hc (by omega) (by omega) (by omega) hc0
                      have Hc0 := Lib.hid hc0
                      clear hcs hc0 hO
                      by_cases hlo : e.lo ≤ (0 : Int)
                      · rw [decide_eq_true (by omega)] at hf
                        obtain ⟨z3, z4⟩ := hOd.bools (x := b) (n := s.size) (f := rrun e s.data.toList now k 0) (j := k) 1 rfl (by omega)
                        have hO2 := hOd.store (x := b) (cs := valsB s.size (rrun e s.data.toList now k 0)) (t := 4) 1 rfl k (.bool true)
                        rw [valsB_set (g := rrun e s.data.toList now k 1) k true (fun m _ => rr_hit (n := 0) hf m)] at hO2
                        have HO2 : Hid (Own w [cellT a (valsB s.size now) 4, cellT b (valsB s.size (rrun e s.data.toList now k 1)) 4] ((wr.drewN nq).setCell ⟨b, k, none⟩ (.bool true))) := Lib.hid hO2
                        clear hO2 hOd hf
                        go_wp2_with fail
                        go_roundw
                        case rel => exact ⟨1, rfl, by omega, by omega, Hc0, HO2⟩
                        case measure => simp [intOf] <;> omega
                      · rw [decide_eq_false (by omega)] at hf
                        rw [valsB_congr (f := rrun e s.data.toList now k 0) (g := rrun e s.data.toList now k 1) (fun m _ => (rr_miss (n := 0) hf m).symm)] at hOd
                        have HO2 := Lib.hid hOd
                        clear hOd hf
                        go_wp2_with fail
                        go_roundw
                        case rel => exact ⟨1, rfl, by omega, by omega, Hc0, HO2⟩
                        case measure => simp [intOf] <;> omega
                    · obtain ⟨n1, hn1⟩ : ∃ n1, n0 = n1 + 1 := ⟨n0 - 1, by omega⟩
                      have hpos : (0 : Int) < (n0 : Int) := by omega
                      obtain ⟨m1, hm1⟩ : ∃ m1, m1 = k + n1 := ⟨_, rfl⟩
                      have hms : m1 < s.size := by omega
                      have hkm : k ≤ m1 := by omega
                      have hml : m1 < s.data.toList.length := by omega
                      have hge : s.data.toList[m1]'hml = s[m1]'hms := rfl
                      have hsc := cons_succ (s := s.data.toList) (i := k) (j := m1) (k := e.cls) hkm hml
                      have hcs1 := hcs.out
                      rw [show k + (n0 - 1) = m1 by omega] at hcs1
                      rw [hcs1, Bool.true_and, hge] at hsc
                      have hbl := rbelongs_any (s[m1]'hms) e.cls
                      have hck : clsB (s[m1]'hms) ≠ 0 := by
                        have := Hch.out
                        unfold chrs at this
                        rw [List.all_eq_true] at this
                        have := this _ (List.getElem_mem hml)
                        rw [hge] at this
                        simpa using this
                      have hot := run_other (e := e) (s := s.data.toList) (i := k) (t := m1) hc hkm hml
                      rw [hge] at hot
                      have hckb : (clsB (s[m1]'hms) != 0) = true := by rw [bne_iff_ne]; exact hck
                      rw [hckb, Bool.true_and] at hbl
                      have hix : (k : Int) + (n0 : Int) - 1 = (m1 : Int) := by omega
                      have hkI2 : (m1 : Int) < (s.size : Int) := by omega
                      have hkI3 : (0 : Int) ≤ (m1 : Int) := by omega
                      have hnk1 : k + n0 = m1 + 1 := by omega
                      have hposN : 0 < n0 := by omega
                      have hneN : ¬ n0 = 0 := by omega
                      cases hin : insB (clsB (s[m1]'hms)) e.cls
                      · rw [hin] at hbl
                        have Hbl := Lib.hid (fun W => (hbl W).mono fun _ _ h => (⟨h.1, h.2.symm⟩ : _ ∧ _ = _))
                        have hdn : ∀ m, m ≤ s.size → rrun e s.data.toList now k n0 m = rstep e s.data.toList now (k + 1) m := fun m hm => rr_done Hnk.out (fun j hj => by have := hot hin j hj; omega) (by omega)
                        have hcg := valsB_congr hdn
                        have Hcg := Lib.hid hcg
                        clear hcg hdn hot hck hckb hbl hin hsc hcs1 hge hn1 hm1 hnk1
                        go_upto_region 18 with fail
                        go_quiet ((go_at_call 120; exact Calls.quiet_of_same (Hbl.out _)))
                        have hO2 := hO.out.drewN nq
                        rw [Hcg.out] at hO2
                        have HO2 := Lib.hid hO2
                        clear hO hO2
                        go_wp2_with fail
                        go_roundw
                        case rel => exact ⟨k + 1, by go_num, by omega, HO2⟩
                        case measure => simp [intOf]; omega
                      · rw [hin] at hbl hsc
                        have Hbl := Lib.hid (fun W => (hbl W).mono fun _ _ h => (⟨h.1, h.2.symm⟩ : _ ∧ _ = _))
                        have hc0 : consB (seg s.data.toList k (k + n0)) e.cls = true := by rw [hnk1]; exact hsc
                        clear hot hck hckb hbl hin hsc hcs1 hge hn1 hm1 hnk1
                        go_upto_region 18 with fail
                        go_quiet ((go_at_call 120; exact Calls.quiet_of_same (Hbl.out _)))
                        have hOd := hO.out.drewN nq
                        have hf := run_fits (e := e) (s := s.data.toList) (i := k) (t := k + n0) hc (by omega) (by omega) (by omega) hc0
                        have Hc0 := Lib.hid hc0
                        clear hcs hc0 hO
                        by_cases hlo : e.lo ≤ (n0 : Int)
                        · rw [decide_eq_true (by omega)] at hf
                          obtain ⟨z3, z4⟩ := hOd.bools (x := b) (n := s.size) (f := rrun e s.data.toList now k n0) (j := k + n0) 1 rfl (by omega)
                          have hO2 := hOd.store (x := b) (cs := valsB s.size (rrun e s.data.toList now k n0)) (t := 4) 1 rfl (k + n0) (.bool true)
                          rw [valsB_set (g := rrun e s.data.toList now k (n0 + 1)) (k + n0) true (fun m _ => rr_hit hf m)] at hO2
                          have HO2 : Hid (Own w [cellT a (valsB s.size now) 4, cellT b (valsB s.size (rrun e s.data.toList now k (n0 + 1))) 4] ((wr.drewN nq).setCell ⟨b, k + n0, none⟩ (.bool true))) := Lib.hid hO2
                          have hkB : (k : Int) + (n0 : Int) < (s.size : Int) + 1 := by omega
                          clear hO2 hOd hf
                          go_wp2_with fail
                          go_roundw
                          case rel => exact ⟨n0 + 1, by go_num, by omega, by omega, Hc0, HO2⟩
                          case measure => simp [intOf]; omega
                        · rw [decide_eq_false (by omega)] at hf
                          rw [valsB_congr (f := rrun e s.data.toList now k n0) (g := rrun e s.data.toList now k (n0 + 1)) (fun m _ => (rr_miss hf m).symm)] at hOd
                          have HO2 := Lib.hid hOd
                          clear hOd hf
                          go_wp2_with fail
                          go_roundw
                          case rel => exact ⟨n0 + 1, by go_num, by omega, by omega, Hc0, HO2⟩
                          case measure => simp [intOf]; omega
                  · have hkI : ¬ ((k : Int) + (n0 : Int) ≤ (s.size : Int)) := by omega
                    have hdn : ∀ m, m ≤ s.size → rrun e s.data.toList now k n0 m = rstep e s.data.toList now (k + 1) m := fun m hm => rr_done Hnk.out (fun j hj => by have := (mem_ends.1 hj).1; omega) (by omega)
                    have hcg := valsB_congr hdn
                    have hO2 := hO.out
                    rw [hcg] at hO2
                    have HO2 := Lib.hid hO2
                    clear hcg hdn hO hO2 hcs
                    go_wp2_with fail
                    go_roundw
                    case rel => exact ⟨k + 1, by go_num, by omega, HO2⟩
                    case measure => simp [intOf]; omega
                · have hdn : ∀ m, m ≤ s.size → rrun e s.data.toList now k n0 m = rstep e s.data.toList now (k + 1) m := fun m hm => rr_done Hnk.out (fun j hj => by have := run_far (e := e) (s := s.data.toList) (i := k) (t := k + n0) hc (by omega) j hj; omega) (by omega)
                  have hcg := valsB_congr hdn
                  have hO2 := hO.out
                  rw [hcg] at hO2
                  have HO2 := Lib.hid hO2
                  clear hcg hdn hO hO2 hcs
                  go_wp2_with fail
                  go_roundw
                  case rel => exact ⟨k + 1, by go_num, by omega, HO2⟩
                  case measure => simp [intOf]; omega
        · have hend : ¬ ((k : Int) ≤ (s.size : Int)) := by omega
          obtain rfl : k = s.size + 1 := by omega
          have hO2 := own_del [] _ _ hO.out
          rw [List.nil_append, valsB_congr (g := reachB (ps.take (i + 1)) s.data.toList fr) (fun m hm => Hfull.out m hm)] at hO2
          have HO2 := Lib.hid hO2
          clear hO hO2
          go_wp2_with fail
          go_roundw
          case rel => exact ⟨b, i + 1, rfl, by go_num, hlt, hle2, HO2⟩
          case measure => simp [intOf]; omega
    · have hend : ¬ ((i : Int) < (ps.length : Int)) := by omega
      have hO2 := hO.out
      rw [List.take_of_length_le (by omega)] at hO2
      have HO2 := Lib.hid hO2
      clear hO hO2
      go_wp2_with fail
      go_ret
      exact ⟨a, rfl, HO2.out.obj 0 rfl, hle, HO2.out.frm⟩

set_option maxRecDepth 100000 in
set_option maxHeartbeats 2000000 in
theorem rmatches_any {v : Value} {ps : List Pc} (w : World) (s : ByteArray) (hb : s.size ≤ 9223372036854775807) (hP : Pcs w v ps) (hsm : Small ps) (hn : ps.length ≤ 1000) :
    Calls Tryd.prog 43 #[v, .string s] w fun e w' => e = .returned (.bool (matchB ps s.data.toList)) ∧ Frm (fun _ => False) w w' := by
  have hl := size_list s
  have hm : matchB ps s.data.toList = (rightB ps && textB s.data.toList && mtB ps s.data.toList) := rfl
  rw [hm]
  clear hm
  have HP := Lib.hid hP
  clear hP
  go_enter Tryd.func43, Tryd.ntmps43
  go_wp2_with fail
  refine (rright_any _ HP.out hsm hn).mono ?_
  rintro e w1 ⟨rfl, f1⟩
  cases hr : rightB ps
  · go_wp2_with fail
    go_ret
    exact ⟨ret_bool (by rw [hr]; rfl), f1⟩
  · have hmem := right_mem hr
    go_wp2_with fail
    refine (risText_any s hb _).mono ?_
    rintro e w2 ⟨rfl, rfl⟩
    cases ht : textB s.data.toList
    · go_wp2_with fail
      go_ret
      exact ⟨ret_bool (by rw [hr, ht]; rfl), f1⟩
    · have ht2 := ht
      unfold textB at ht2
      rw [Bool.and_eq_true, decide_eq_true_eq] at ht2
      have h200 : s.size ≤ 200 := by omega
      go_wp2_with fail
      refine (rends_any w1 s 0 (HP.out.still f1) hmem hsm hn h200 ht2.2 (Nat.zero_le _)).mono ?_
      rintro e w3 ⟨b, rfl, hblk, hle, f3⟩
      have c0 : w3.cell? ⟨b, s.size, none⟩ = some (.bool (reachB ps s.data.toList 0 s.size)) := by
        rw [cell_of_row w3 b _ _ _ _ hblk]
        exact valsB_at _ (Nat.le_refl _)
      have hrc : reachB ps s.data.toList 0 s.size = mtB ps s.data.toList := by
        unfold reachB
        rw [decide_eq_true (Nat.zero_le _), Bool.true_and, ← hl, seg_all]
      rw [hrc] at c0
      have Hf := Lib.hid (f1.trans f3)
      have hlt : (s.size : Int) < (s.size : Int) + 1 := by omega
      clear hblk f1 f3 hmem hrc ht2
      go_wp2_with fail
      go_ret
      exact ⟨ret_bool (by rw [hr, ht]; rfl), Hf.out⟩
end Go.Proofs.YtgnjakaamgeibaaDoor
