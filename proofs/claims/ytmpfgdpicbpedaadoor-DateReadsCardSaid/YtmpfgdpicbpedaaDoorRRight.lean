/-
  Right of the reference: what its code does. Printed by wip/rright.py. Conditions: the layout is within reach.
-/
import Derived.Test.YtmpfgdpicbpedaaDoorRParts2
import Derived.Test.YtmpfgdpicbpedaaDoorTwo
namespace Go.Proofs.YtmpfgdpicbpedaaDoor
open Go.RowKit Go.Shelf
attribute [local go_sem] Oper.semAt_some

theorem Strs.cell {w : World} {v : Value} {l : List (List UInt8)} (h : Strs w v l) (k : Nat) (hk : k < l.length) : ∃ g cap, v = .slice (some ⟨g, 0, none⟩) l.length cap ∧ w.cell? ⟨g, k, none⟩ = some (strV l[k]) ∧ g < w.heap.size := by
  rcases h.2 with ⟨rfl, h0⟩ | ⟨g, cap, cur, rfl, hb, hg, h1, h2, h3, h4⟩
  · rw [h0] at hk
    exact absurd hk (Nat.not_lt_zero _)
  · have hc := World.ownsRow.cells (h : w.ownsRow 0 9 1 _ _ _) (g := g) rfl k (strV l[k]) (by simp [hk])
    rw [Addr.add_lit, Nat.zero_add] at hc
    exact ⟨g, cap, rfl, hc, (Array.getElem?_eq_some_iff.1 hg).1⟩
theorem okR_drop {ps : List (List UInt8)} {o : Bool} (k : Nat) (hk : k < ps.length) : okR o (ps.drop k) = (!(ps[k] == [89]) && !(o && isF ps[k]) && okR (shB ps[k]) (ps.drop (k + 1))) := by
  rw [List.drop_eq_getElem_cons hk, okR]
theorem cnt_take (c : UInt8) (ps : List (List UInt8)) (k : Nat) (hk : k < ps.length) : cnt c (ps.take (k + 1)) = cnt c (ps.take k) + if kind c ps[k] = true then 1 else 0 := by
  unfold cnt
  rw [List.take_succ_eq_append_getElem hk, List.filter_append, List.length_append]
  by_cases h : kind c ps[k] = true
  · simp [h]
  · simp [h]

theorem cells3' {w : World} {x : Nat} {a b c : Value} {t : TypeId} (h : w.heap[x]? = some (.cells #[a, b, c] t (0, 0))) : w.cell? ⟨x, 0, none⟩ = some a ∧ w.cell? ⟨x, 1, none⟩ = some b ∧ w.cell? ⟨x, 2, none⟩ = some c ∧ w.frozen? ⟨x, 0, none⟩ = false ∧ w.frozen? ⟨x, 1, none⟩ = false ∧ w.frozen? ⟨x, 2, none⟩ = false := by
  refine ⟨?_, ?_, ?_, frozen_of_row w x 0 _ _ h, frozen_of_row w x 1 _ _ h, frozen_of_row w x 2 _ _ h⟩ <;> (rw [cell_of_row w x _ _ t _ h]; rfl)
theorem set_frm (w : World) (B i : Nat) (v : Value) : Frm (fun b => b = B) w (w.setCell ⟨B, i, none⟩ v) := Frm.setCell (F := fun b => b = B) (Frm.refl _ _) (p := ⟨B, i, none⟩) (.inl rfl) _
theorem ne_lit {t : List UInt8} {X : ByteArray} (hX : X = ⟨t.toArray⟩) (l : List UInt8) (h : t ≠ l) : (X.toList == l) = false := by
  rw [beq_eq_false_iff_ne, toList_data, hX]
  exact h

set_option maxRecDepth 100000 in
set_option maxHeartbeats 4000000 in
theorem rright_any (s : ByteArray) (w : World) : Calls Tryd.prog 47 #[.string s] w fun e w' => e = .returned (.bool (rightB s.data.toList)) ∧ Frm (fun _ => False) w w' := by
  have href := right_ref s.data.toList
  by_cases h40 : s.size ≤ 40
  · have Href := Lib.hid href
    clear href
    go_enter Tryd.func47, Tryd.ntmps47
    go_wp2_with fail
    go_loop [3] (fun i => ∃ k : Nat, k ≤ s.size ∧ i = .int .i64 k ∧ Hid ((s.data.toList.take k).all chB = true)) (fun i => s.size - (intOf i).toNat)
    case atStart => exact ⟨0, Nat.zero_le _, rfl, by show _ = _; rfl⟩
    case round =>
      obtain ⟨k, hk, rfl, ha⟩ := hrel
      by_cases hend : k < s.size
      · have j3 : k < s.data.toList.length := by rw [size_toList]; exact hend
        have hge : s.data.toList[k] = s[k] := rfl
        by_cases hd : chB s[k] = true
        · have hsn : (s.data.toList.take (k + 1)).all chB = true := by
            rw [List.take_succ_eq_append_getElem j3, List.all_append, ha.out, hge]
            simp [hd]
          have Hsn := Lib.hid hsn
          unfold chB at hd
          rw [Bool.and_eq_true, decide_eq_true_iff, Bool.not_eq_true', decide_eq_false_iff_not] at hd
          obtain ⟨⟨d1, d2⟩, d3⟩ := hd
          have d1' : (32 : Int) ≤ s[k].toNat := by omega
          have d2' : (s[k].toNat : Int) ≤ 126 := by omega
          have d3' : (s[k].toNat : Int) < 48 ∨ 57 < (s[k].toNat : Int) := by omega
          clear hsn hge d1 d2 d3 ha
          rcases d3' with d3' | d3'
          all_goals
            go_wp2_with fail
            go_round
            case rel => exact ⟨k + 1, hend, by go_num, Hsn.out⟩
            case measure => simp [intOf]; omega
        · have hno : rightB s.data.toList = false := by
            rw [Href.out]
            have : s.data.toList.all chB = false := by
              rw [Bool.eq_false_iff]
              intro h
              have := List.all_eq_true.1 h s.data.toList[k] (List.getElem_mem _)
              rw [hge] at this
              exact hd this
            rw [this]
            simp
          have Hno := Lib.hid hno
          have hd2 : (s[k].toNat : Int) < 32 ∨ 126 < (s[k].toNat : Int) ∨ ((48 : Int) ≤ s[k].toNat ∧ (s[k].toNat : Int) ≤ 57) := by
            unfold chB at hd
            rw [Bool.and_eq_true, decide_eq_true_iff, Bool.not_eq_true', decide_eq_false_iff_not] at hd
            omega
          clear hno hge ha hd
          rcases hd2 with d | d | ⟨d1, d2⟩
          · go_wp2_with fail
            go_ret
            exact ⟨by rw [Hno.out]; rfl, Frm.refl _ _⟩
          · have d0 : ¬ (s[k].toNat : Int) < 32 := by omega
            go_wp2_with fail
            go_ret
            exact ⟨by rw [Hno.out]; rfl, Frm.refl _ _⟩
          · have d0 : ¬ (s[k].toNat : Int) < 32 := by omega
            have d3 : ¬ 126 < (s[k].toNat : Int) := by omega
            go_wp2_with fail
            go_ret
            exact ⟨by rw [Hno.out]; rfl, Frm.refl _ _⟩
      · have hch : s.data.toList.all chB = true := by
          have := ha.out
          rw [List.take_of_length_le (by rw [size_toList]; omega)] at this
          exact this
        have hend2 : ¬ ((k : Int) < (s.size : Int)) := by omega
        have hfin : rightB s.data.toList = (okR false (parts s.data.toList) && (cnt 89 (parts s.data.toList) == 1 && cnt 77 (parts s.data.toList) == 1 && cnt 68 (parts s.data.toList) == 1)) := by
          rw [Href.out, hch, decide_eq_true (show s.data.toList.length ≤ 40 by rw [size_toList]; exact h40)]
          simp
        have hpl := parts_len s.data.toList
        rw [size_toList] at hpl
        have hpl2 : (parts s.data.toList).length ≤ 40 := by omega
        have Hfin := Lib.hid hfin
        clear hfin hch ha hend hpl Href
        go_wp2_with fail
        refine (rparts_any s (by omega) _).mono ?_
        rintro e w1 ⟨v, rfl, hst, f1, hnew⟩
        generalize parts s.data.toList = ps at hst hpl2 Hfin
        obtain ⟨ao, cap, rfl⟩ := hst.form
        go_upto_region 10 with fail
        obtain ⟨B, hB⟩ : ∃ b, b = w1.heap.size := ⟨_, rfl⟩
        obtain ⟨W2, hW2⟩ : ∃ W, W = w1.alloc (.cells #[.int .i64 0, .int .i64 0, .int .i64 0] 22) := ⟨_, rfl⟩
        have hO : W2.heap[B]? = some (.cells #[.int .i64 0, .int .i64 0, .int .i64 0] 22 (0, 0)) := by rw [hW2, hB]; exact heap_alloc_new w1 _
        have hst2 : Strs W2 (.slice ao ps.length cap) ps := hst.frm (F := fun _ => False) (by rw [hW2]; exact (Frm.refl _ _).alloc _) (fun _ _ h => h)
        have f2 : Frm (fun _ => False) w W2 := by rw [hW2]; exact f1.alloc _
        have hnB : ∀ b, Blk (.slice ao ps.length cap) b → b ≠ B := fun b hb => by
          have := (World.ownsRow.lt (h := hst) b hb).2
          omega
        have hBn : w.heap.size ≤ B := by have := f1.size; omega
        rw [← hW2, ← hB]
        clear hW2 hB hst f1 hnew
        go_wp2_with fail
        go_loopw [6, 7] (fun so sk wr => ∃ (k : Nat) (op : Bool) (a b c : Int), so = .bool op ∧ sk = .int .i64 k ∧ k ≤ ps.length ∧ 0 ≤ a ∧ a ≤ 40 ∧ 0 ≤ b ∧ b ≤ 40 ∧ 0 ≤ c ∧ c ≤ 40 ∧ Hid (a = cnt 89 (ps.take k) ∧ b = cnt 77 (ps.take k) ∧ c = cnt 68 (ps.take k)) ∧ Hid (okR false ps = okR op (ps.drop k)) ∧ wr.heap[B]? = some (.cells #[.int .i64 a, .int .i64 b, .int .i64 c] 22 (0, 0)) ∧ Strs wr (.slice ao ps.length cap) ps ∧ Frm (fun _ => False) w wr) (fun _ sk _ => ps.length - (intOf sk).toNat)
        case atStart => exact ⟨0, false, 0, 0, 0, rfl, rfl, Nat.zero_le _, by omega, by omega, by omega, by omega, by omega, by omega, ⟨rfl, rfl, rfl⟩, by show _ = _; rfl, hO, hst2, f2⟩
        case round =>
          clear hO hst2 f2
          obtain ⟨k, op, a, b, c, rfl, rfl, hk, a0, a1, b0, b1, c0, c1, hcn, hok, hO, hst, hf⟩ := hrel
          obtain ⟨q0, q1, q2, z0, z1, z2⟩ := cells3' hO
          by_cases hlt : k < ps.length
          · obtain ⟨g, cap', hv, hc, hg⟩ := hst.cell k hlt
            obtain ⟨e1, e2⟩ : ao = some ⟨g, 0, none⟩ ∧ cap = cap' := by injection hv with h1 _ h2; exact ⟨h1, h2⟩
            subst e1
            subst e2
            have hgB : g ≠ B := hnB g (Blk.some.2 rfl)
            have hcl : ∀ (c : UInt8) (m : Nat), m = cnt c (ps.take k) → (∀ x : List (List UInt8), cnt c x ≤ x.length) → True := fun _ _ _ _ => trivial
            have hbd : ∀ ch : UInt8, cnt ch (ps.take k) ≤ 39 := fun ch => by
              have h1 : cnt ch (ps.take k) ≤ (ps.take k).length := List.length_filter_le _ _
              rw [List.length_take] at h1
              omega
            have hn89 := cnt_take 89 ps k hlt
            have hn77 := cnt_take 77 ps k hlt
            have hn68 := cnt_take 68 ps k hlt
            have hor := okR_drop (o := op) k hlt
            rw [← hok.out] at hor
            have a2 : a ≤ 39 := by rw [hcn.out.1]; have := hbd 89; omega
            have b2 : b ≤ 39 := by rw [hcn.out.2.1]; have := hbd 77; omega
            have c2 : c ≤ 39 := by rw [hcn.out.2.2]; have := hbd 68; omega
            have y89 : cnt 89 (ps.take k) = a.toNat := by have := hcn.out.1; omega
            rw [y89] at hn89
            have y77 : cnt 77 (ps.take k) = b.toNat := by have := hcn.out.2.1; omega
            rw [y77] at hn77
            have y68 : cnt 68 (ps.take k) = c.toNat := by have := hcn.out.2.2; omega
            rw [y68] at hn68
            clear hv hcl hbd hcn hok y89 y77 y68
            generalize ps[k] = t at hn89 hn77 hn68 hor hc
            have hgB2 : B ≠ g := fun e => hgB e.symm
            have Hn89 := Lib.hid hn89
            have Hn77 := Lib.hid hn77
            have Hn68 := Lib.hid hn68
            clear hn89 hn77 hn68 
            by_cases hfY : t = fY
            · subst hfY
              have hc' : wr.cell? ⟨g, k, none⟩ = some (.string ⟨#[89, 89, 89, 89]⟩) := hc
              clear hc
              cases op
              · have hok' : okR false ps = okR false (ps.drop (k + 1)) := by rw [hor]; rfl
                have Hok := Lib.hid hok'
                clear hok' hor
                go_wp2_with fail
                go_roundw
                case rel =>
                  refine ⟨k + 1, false, a + 1, b, c, rfl, by go_num, hlt, by omega, by omega, by omega, by omega, by omega, by omega, ?_, Hok.out, heap_set hO _, hst.frm (F := fun b => b = B) (set_frm _ _ _ _) hnB, hf.setCell (.inr hBn) _⟩
                  have g1 := Hn89.out
                  have g2 := Hn77.out
                  have g3 := Hn68.out
                  rw [show kind 89 fY = true from rfl] at g1
                  rw [show kind 77 fY = false from rfl] at g2
                  rw [show kind 68 fY = false from rfl] at g3
                  simp only [if_true, Bool.false_eq_true, if_false] at g1 g2 g3
                  show _ ∧ _ ∧ _
                  omega
                case measure => simp [intOf]; omega
              · have hno : rightB s.data.toList = false := by rw [Hfin.out, hor]; rfl
                have Hno := Lib.hid hno
                clear hno hor Hfin
                go_wp2_with fail
                go_ret
                exact ⟨by rw [Hno.out]; rfl, hf.setCell (.inr hBn) _⟩
            by_cases hfMM : t = fMM
            · subst hfMM
              have hc' : wr.cell? ⟨g, k, none⟩ = some (.string ⟨#[77, 77]⟩) := hc
              clear hc
              cases op
              · have hok' : okR false ps = okR false (ps.drop (k + 1)) := by rw [hor]; rfl
                have Hok := Lib.hid hok'
                clear hok' hor
                go_wp2_with fail
                go_roundw
                case rel =>
                  refine ⟨k + 1, false, a, b + 1, c, rfl, by go_num, hlt, by omega, by omega, by omega, by omega, by omega, by omega, ?_, Hok.out, heap_set hO _, hst.frm (F := fun b => b = B) (set_frm _ _ _ _) hnB, hf.setCell (.inr hBn) _⟩
                  have g1 := Hn89.out
                  have g2 := Hn77.out
                  have g3 := Hn68.out
                  rw [show kind 89 fMM = false from rfl] at g1
                  rw [show kind 77 fMM = true from rfl] at g2
                  rw [show kind 68 fMM = false from rfl] at g3
                  simp only [if_true, Bool.false_eq_true, if_false] at g1 g2 g3
                  show _ ∧ _ ∧ _
                  omega
                case measure => simp [intOf]; omega
              · have hno : rightB s.data.toList = false := by rw [Hfin.out, hor]; rfl
                have Hno := Lib.hid hno
                clear hno hor Hfin
                go_wp2_with fail
                go_ret
                exact ⟨by rw [Hno.out]; rfl, hf.setCell (.inr hBn) _⟩
            by_cases hfM : t = fM
            · subst hfM
              have hc' : wr.cell? ⟨g, k, none⟩ = some (.string ⟨#[77]⟩) := hc
              clear hc
              cases op
              · have hok' : okR false ps = okR true (ps.drop (k + 1)) := by rw [hor]; rfl
                have Hok := Lib.hid hok'
                clear hok' hor
                go_wp2_with fail
                go_roundw
                case rel =>
                  refine ⟨k + 1, true, a, b + 1, c, rfl, by go_num, hlt, by omega, by omega, by omega, by omega, by omega, by omega, ?_, Hok.out, heap_set hO _, hst.frm (F := fun b => b = B) (set_frm _ _ _ _) hnB, hf.setCell (.inr hBn) _⟩
                  have g1 := Hn89.out
                  have g2 := Hn77.out
                  have g3 := Hn68.out
                  rw [show kind 89 fM = false from rfl] at g1
                  rw [show kind 77 fM = true from rfl] at g2
                  rw [show kind 68 fM = false from rfl] at g3
                  simp only [if_true, Bool.false_eq_true, if_false] at g1 g2 g3
                  show _ ∧ _ ∧ _
                  omega
                case measure => simp [intOf]; omega
              · have hno : rightB s.data.toList = false := by rw [Hfin.out, hor]; rfl
                have Hno := Lib.hid hno
                clear hno hor Hfin
                go_wp2_with fail
                go_ret
                exact ⟨by rw [Hno.out]; rfl, hf.setCell (.inr hBn) _⟩
            by_cases hfDD : t = fDD
            · subst hfDD
              have hc' : wr.cell? ⟨g, k, none⟩ = some (.string ⟨#[68, 68]⟩) := hc
              clear hc
              cases op
              · have hok' : okR false ps = okR false (ps.drop (k + 1)) := by rw [hor]; rfl
                have Hok := Lib.hid hok'
                clear hok' hor
                go_wp2_with fail
                go_roundw
                case rel =>
                  refine ⟨k + 1, false, a, b, c + 1, rfl, by go_num, hlt, by omega, by omega, by omega, by omega, by omega, by omega, ?_, Hok.out, heap_set hO _, hst.frm (F := fun b => b = B) (set_frm _ _ _ _) hnB, hf.setCell (.inr hBn) _⟩
                  have g1 := Hn89.out
                  have g2 := Hn77.out
                  have g3 := Hn68.out
                  rw [show kind 89 fDD = false from rfl] at g1
                  rw [show kind 77 fDD = false from rfl] at g2
                  rw [show kind 68 fDD = true from rfl] at g3
                  simp only [if_true, Bool.false_eq_true, if_false] at g1 g2 g3
                  show _ ∧ _ ∧ _
                  omega
                case measure => simp [intOf]; omega
              · have hno : rightB s.data.toList = false := by rw [Hfin.out, hor]; rfl
                have Hno := Lib.hid hno
                clear hno hor Hfin
                go_wp2_with fail
                go_ret
                exact ⟨by rw [Hno.out]; rfl, hf.setCell (.inr hBn) _⟩
            by_cases hfD : t = fD
            · subst hfD
              have hc' : wr.cell? ⟨g, k, none⟩ = some (.string ⟨#[68]⟩) := hc
              clear hc
              cases op
              · have hok' : okR false ps = okR true (ps.drop (k + 1)) := by rw [hor]; rfl
                have Hok := Lib.hid hok'
                clear hok' hor
                go_wp2_with fail
                go_roundw
                case rel =>
                  refine ⟨k + 1, true, a, b, c + 1, rfl, by go_num, hlt, by omega, by omega, by omega, by omega, by omega, by omega, ?_, Hok.out, heap_set hO _, hst.frm (F := fun b => b = B) (set_frm _ _ _ _) hnB, hf.setCell (.inr hBn) _⟩
                  have g1 := Hn89.out
                  have g2 := Hn77.out
                  have g3 := Hn68.out
                  rw [show kind 89 fD = false from rfl] at g1
                  rw [show kind 77 fD = false from rfl] at g2
                  rw [show kind 68 fD = true from rfl] at g3
                  simp only [if_true, Bool.false_eq_true, if_false] at g1 g2 g3
                  show _ ∧ _ ∧ _
                  omega
                case measure => simp [intOf]; omega
              · have hno : rightB s.data.toList = false := by rw [Hfin.out, hor]; rfl
                have Hno := Lib.hid hno
                clear hno hor Hfin
                go_wp2_with fail
                go_ret
                exact ⟨by rw [Hno.out]; rfl, hf.setCell (.inr hBn) _⟩
            by_cases h89 : t = [89]
            · subst h89
              have hc' : wr.cell? ⟨g, k, none⟩ = some (.string ⟨#[89]⟩) := hc
              have hno : rightB s.data.toList = false := by rw [Hfin.out, hor]; rfl
              have Hno := Lib.hid hno
              clear hno hor Hfin hc
              go_wp2_with fail
              go_ret
              exact ⟨by rw [Hno.out]; rfl, hf⟩
            · have hnf : isF t = false := by
                unfold isF
                simp only [Bool.or_eq_false_iff, beq_eq_false_iff_ne]
                exact ⟨⟨⟨⟨hfY, hfMM⟩, hfM⟩, hfDD⟩, hfD⟩
              have hsh : shB t = false := by
                unfold shB
                simp only [Bool.or_eq_false_iff, beq_eq_false_iff_ne]
                exact ⟨hfM, hfD⟩
              have hok' : okR false ps = okR false (ps.drop (k + 1)) := by
                rw [hor, hnf, hsh, beq_eq_false_iff_ne.2 h89]
                simp
              have hk89 : ∀ ch, kind ch t = false := fun ch => by unfold kind; rw [hnf]; rfl
              have hcn' : a = cnt 89 (ps.take (k + 1)) ∧ b = cnt 77 (ps.take (k + 1)) ∧ c = cnt 68 (ps.take (k + 1)) := by
                have g1 := Hn89.out
                have g2 := Hn77.out
                have g3 := Hn68.out
                rw [hk89] at g1 g2 g3
                simp only [Bool.false_eq_true, if_false] at g1 g2 g3
                omega
              unfold strV at hc
              obtain ⟨X, hX⟩ : ∃ X : ByteArray, X = ⟨t.toArray⟩ := ⟨_, rfl⟩
              rw [← hX] at hc
              have t0 := ne_lit hX [89, 89, 89, 89] hfY
              have t1 := ne_lit hX [77, 77] hfMM
              have t2 := ne_lit hX [77] hfM
              have t3 := ne_lit hX [68, 68] hfDD
              have t4 := ne_lit hX [68] hfD
              have t5 := ne_lit hX [89] h89
              have Hok := Lib.hid hok'
              have Hcn := Lib.hid hcn'
              clear hok' hor hcn' hk89 hsh hnf hX h89 hfY hfMM hfM hfDD hfD Hn89 Hn77 Hn68
              cases op
              all_goals
                go_wp2_with fail
                go_roundw
                case rel => exact ⟨k + 1, false, a, b, c, rfl, by go_num, hlt, a0, a1, b0, b1, c0, c1, Hcn.out, Hok.out, hO, hst, hf⟩
                case measure => simp [intOf]; omega
          · obtain rfl : k = ps.length := by omega
            have hc9 := hcn.out
            rw [List.take_length] at hc9
            have ho9 := hok.out
            rw [List.drop_length] at ho9
            have hfin : rightB s.data.toList = (decide (a = 1) && decide (b = 1) && decide (c = 1)) := by
              rw [Hfin.out, ho9, okR, Bool.true_and, Bool.eq_iff_iff]
              simp only [Bool.and_eq_true, beq_iff_eq, decide_eq_true_eq]
              omega
            have Hfin2 := Lib.hid hfin
            clear hfin hc9 ho9 hcn hok Hfin hlt hst hO hnB
            by_cases ea : a = 1
            · subst ea
              by_cases eb : b = 1
              · subst eb
                by_cases ec : c = 1
                · subst ec
                  go_wp2_with fail
                  go_ret
                  exact ⟨by rw [Hfin2.out]; rfl, hf⟩
                · have ec2 : (c == 1) = false := by rw [beq_eq_false_iff_ne]; exact ec
                  go_wp2_with fail
                  go_ret
                  exact ⟨by rw [Hfin2.out, decide_eq_false ec]; rfl, hf⟩
              · have eb2 : (b == 1) = false := by rw [beq_eq_false_iff_ne]; exact eb
                go_wp2_with fail
                go_ret
                exact ⟨by rw [Hfin2.out, decide_eq_false eb]; rfl, hf⟩
            · have ea2 : (a == 1) = false := by rw [beq_eq_false_iff_ne]; exact ea
              go_wp2_with fail
              go_ret
              exact ⟨by rw [Hfin2.out, decide_eq_false ea]; rfl, hf⟩
  · have hno : rightB s.data.toList = false := by
      unfold rightB
      rw [decide_eq_false (by rw [size_toList]; exact h40)]
      rfl
    have Hno := Lib.hid hno
    have h2 : (40 : Int) < s.size := by omega
    clear href hno h40
    go_enter Tryd.func47, Tryd.ntmps47
    go_wp2_with fail
    go_ret
    exact ⟨by rw [Hno.out]; rfl, Frm.refl _ _⟩
end Go.Proofs.YtmpfgdpicbpedaaDoor
