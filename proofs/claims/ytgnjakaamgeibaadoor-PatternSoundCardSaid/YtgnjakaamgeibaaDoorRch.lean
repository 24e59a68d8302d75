/-
  pattern.reach: the greatest end at each place. Conditions: the pieces are right, the text is short.
-/
import Derived.Test.YtgnjakaamgeibaaDoorEnds
import Derived.Test.YtgnjakaamgeibaaDoorBrg
import Derived.Deep.OwnRows
namespace Go.Proofs.YtgnjakaamgeibaaDoor
open Go.RowKit Go.Shelf
attribute [local go_sem] Oper.semAt_some

/-- A list of numbers, one for each place. -/
def valsI (n : Nat) (f : Nat → Int) : Array Value := ((List.range (n + 1)).map fun j => Value.int .i64 (f j)).toArray
theorem valsI_size (n : Nat) (f : Nat → Int) : (valsI n f).size = n + 1 := by simp [valsI]
theorem valsI_at {n j : Nat} (f : Nat → Int) (h : j ≤ n) : (valsI n f)[j]? = some (.int .i64 (f j)) := by
  unfold valsI
  rw [List.getElem?_toArray, List.getElem?_map, List.getElem?_range (by omega)]
  rfl
theorem valsI_congr {n : Nat} {f g : Nat → Int} (h : ∀ j, j ≤ n → f j = g j) : valsI n f = valsI n g := by
  unfold valsI
  congr 1
  refine List.map_congr_left fun j hj => ?_
  rw [h j (by have := List.mem_range.1 hj; omega)]
def upI (f : Nat → Int) (i : Nat) (v : Int) (j : Nat) : Int := if j = i then v else f j
theorem valsI_set {n : Nat} (f : Nat → Int) (i : Nat) (v : Int) : (valsI n f).setIfInBounds i (.int .i64 v) = valsI n (upI f i v) := by
  refine Array.ext_getElem? fun j => ?_
  rw [Array.getElem?_setIfInBounds]
  by_cases hj : j ≤ n
  · rw [valsI_at _ hj, valsI_at _ hj]
    unfold upI
    by_cases e : j = i
    · subst e
      rw [if_pos rfl, if_pos rfl, valsI_size, if_pos (by omega)]
    · rw [if_neg (fun h => e h.symm), if_neg e]
  · have h1 : ∀ g, (valsI n g)[j]? = none := fun g => Array.getElem?_eq_none (by rw [valsI_size]; omega)
    rw [h1, h1, valsI_size]
    by_cases e : i = j
    · rw [if_pos e, if_neg (by omega)]
    · rw [if_neg e]
theorem Own.ints {w0 w : World} {L : List Thing} (h : Own w0 L w) {x n j : Nat} {f : Nat → Int} (i : Nat) (hi : L[i]? = some (cellT x (valsI n f) 3)) (hj : j ≤ n) : w.cell? ⟨x, j, none⟩ = some (.int .i64 (f j)) ∧ w.frozen? ⟨x, j, none⟩ = false :=
  ⟨by rw [cell_of_row w x j _ _ _ (h.obj i hi)]; exact valsI_at f hj, frozen_of_row w x j _ _ (h.obj i hi)⟩
theorem own_del {w0 W : World} (A B : List Thing) (T : Thing) (h : Own w0 (A ++ T :: B) W) : Own w0 (A ++ B) W := by
  refine h.reidx (fun j => if j < A.length then j else j + 1) (fun j U hj => ?_) (fun i j _ _ e => ?_)
  · split
    · rename_i hl
      rw [List.getElem?_append_left hl] at hj ⊢
      exact hj
    · rename_i hl
      rw [List.getElem?_append_right (by omega)] at hj
      rw [List.getElem?_append_right (by omega), show j + 1 - A.length = (j - A.length) + 1 by omega]
      exact hj
  · split at e <;> split at e <;> omega
theorem made_ints (n : Nat) : madeCells #[Value.int .i64 0] (n + 1) = valsI n fun _ => 0 := by
  refine Array.ext' ?_
  rw [toList_madeCells_one]
  unfold valsI
  simp [List.map_const']
theorem make_ints (n : Nat) (hn : n ≤ 100000) (w : World) : (Instr.makeSlice 22 (.int .i64 ((n : Int) + 1)) (.int .i64 ((n : Int) + 1))).run Tryd.prog w = .ok (.slice (some ⟨w.heap.size, 0, none⟩) (n + 1) (n + 1)) (w.alloc (.cells (valsI n fun _ => 0) 3)) := by
  have := run_make_row' (P := Tryd.prog) 22 3 (.int .i64 0) 8 Tryd.underlying22 (by kernel_rfl) rfl .i64 .i64 (n + 1) (by omega) (by omega) w
  rw [show ((n + 1 : Nat) : Int) = (n : Int) + 1 by omega, made_ints] at this
  exact this

def RchI2 (w : World) (s : ByteArray) (ps : List Pc) (ao : Option Addr) (cap ba : Nat) (a' : Act) (w' : World) : Prop := ∃ (Ds : List Nat) (u2 u3 u4 u6 u7 u8 u9 u10 u11 u12 u13 u14 u15 u16 u17 u18 u19 u20 u21 u22 u23 u24 u25 u26 u27 u28 u29 u30 u31 u32 u33 u34 u35 u36 u37 u38 u39 u40 u41 u42 u43 u44 u45 u46 u47 u48 u49 u50 u51 u52 u53 u54 u55 u56 u57 u58 u59 u60 u61 u62 u63 u64 u65 u66 : Value), (∃ (k a : Nat) (m : Int) (f : Nat → Int), u7 = .int .i64 m ∧ m + 1 = (k : Int) ∧ k ≤ ps.length ∧ w.heap.size ≤ a ∧ Hid (∀ j, j ≤ s.data.toList.length → IsG (ps.drop k) s.data.toList j (f j)) ∧ Hid (Own w ([cellT ba #[.slice (some ⟨a, 0, none⟩) (s.size + 1) (s.size + 1)] 22, cellT a (valsI s.size f) 3] ++ marksT Ds) w')) ∧ a' = { tmps := #[.slice ao ps.length cap, .string s, u2, u3, u4, .pointer (some ⟨ba, 0, none⟩), u6, u7, u8, u9, u10, u11, u12, u13, u14, u15, u16, u17, u18, u19, u20, u21, u22, u23, u24, u25, u26, u27, u28, u29, u30, u31, u32, u33, u34, u35, u36, u37, u38, u39, u40, u41, u42, u43, u44, u45, u46, u47, u48, u49, u50, u51, u52, u53, u54, u55, u56, u57, u58, u59, u60, u61, u62, u63, u64, u65, u66], defers := marks Ds }
def RchI3 (w : World) (s : ByteArray) (ps : List Pc) (ao : Option Addr) (cap ba j a bh hb : Nat) (e : Pc) (f : Nat → Int) (a' : Act) (w' : World) : Prop := ∃ (Ds : List Nat) (u2 u3 u4 u6 u9 u10 u11 u12 u13 u14 u15 u16 u17 u18 u19 u20 u21 u22 u23 u24 u25 u26 u27 u28 u29 u30 u31 u32 u33 u34 u35 u36 u38 u39 u40 u41 u42 u43 u44 u45 u46 u47 u48 u49 u50 u51 u52 u53 u54 u55 u56 u57 u58 u59 u60 u61 u62 u63 u64 u65 u66 : Value), (∃ (i : Nat) (h : Nat → Int), u38 = .int .i64 i ∧ i ≤ s.size + 1 ∧ Hid (∀ q, q < i → h q = mxG f (endsL e s.data.toList q)) ∧ Hid (Own w ([cellT ba #[.slice (some ⟨a, 0, none⟩) (s.size + 1) (s.size + 1)] 22, cellT a (valsI s.size f) 3, cellT bh #[.slice (some ⟨hb, 0, none⟩) (s.size + 1) (s.size + 1)] 22, cellT hb (valsI s.size h) 3] ++ marksT Ds) w')) ∧ a' = { tmps := #[.slice ao ps.length cap, .string s, u2, u3, u4, .pointer (some ⟨ba, 0, none⟩), u6, .int .i64 (j : Int), .pointer (some ⟨bh, 0, none⟩), u9, u10, u11, u12, u13, u14, u15, u16, u17, u18, u19, u20, u21, u22, u23, u24, u25, u26, u27, u28, u29, u30, u31, u32, u33, u34, u35, u36, .int .i64 ((s.size : Int) + 1), u38, u39, u40, u41, u42, u43, u44, u45, u46, u47, u48, u49, u50, u51, u52, u53, u54, u55, u56, u57, u58, u59, u60, u61, u62, u63, u64, u65, u66], defers := marks Ds }
set_option maxRecDepth 100000 in
set_option maxHeartbeats 8000000 in
theorem reach_any {v : Value} {ps : List Pc} (w : World) (s : ByteArray) (hP : Pcs w v ps) (hr : ∀ p ∈ ps, pieceB p = true) (hsm : Small ps) (hn : ps.length ≤ 1000) (hs : s.size ≤ 200) :
    Calls Tryd.prog 86 #[v, .string s] w fun e w' => ∃ b, e = .returned (.slice (some ⟨b, 0, none⟩) (s.size + 1) (s.size + 1)) ∧ w'.heap[b]? = some (.cells (valsI s.size (gEnd ps s.data.toList)) 3 (0, 0)) ∧ w.heap.size ≤ b ∧ Frm (fun _ => False) w w' := by
  obtain ⟨ao, cap, rfl⟩ := hP.form
  have hl := size_list s
  refine callsIn_wide.1 (callsIn_of_wp_marks (n := 5) Tryd.func86 rfl trivial (wpIn_wide.2 ?_) rfl)
  simp only [Tryd.ntmps86, List.size_toArray, List.length_cons, List.length_nil, Nat.reduceAdd, Nat.reduceSub, Array.replicate_succ, Array.replicate_zero, List.push_toArray, List.append_toArray, List.nil_append, List.cons_append]
  have hmk := make_ints s.size (by omega)
  go_wp2_with fail
  have hO := ((Own.start w).box (valsI s.size fun _ => 0) 3).box #[.slice (some ⟨w.heap.size, 0, none⟩) (s.size + 1) (s.size + 1)] 22
  rw [World.size_alloc] at hO
  obtain ⟨W1, hW1⟩ : ∃ W, W = ((w.alloc (.cells (valsI s.size fun _ => 0) 3)).alloc (.cells #[.slice (some ⟨w.heap.size, 0, none⟩) (s.size + 1) (s.size + 1)] 22)) := ⟨_, rfl⟩
  obtain ⟨ba, hba⟩ : ∃ b, b = w.heap.size + 1 := ⟨_, rfl⟩
  obtain ⟨a, ha⟩ : ∃ b, b = w.heap.size := ⟨_, rfl⟩
  rw [← hW1, ← hba, ← ha] at hO
  rw [← hW1, ← hba, ← ha]
  have hle : w.heap.size ≤ a := by omega
  have HO : Hid (Own w [cellT a (valsI s.size fun _ => 0) 3, cellT ba #[.slice (some ⟨a, 0, none⟩) (s.size + 1) (s.size + 1)] 22] W1) := Lib.hid hO
  have HP := Lib.hid hP
  clear hO hW1 hba ha hP
  go_loopw [17] (fun sk wr => ∃ i : Nat, sk = .int .i64 i ∧ i ≤ s.size + 1 ∧ Hid (Own w [cellT a (valsI s.size fun j => if j < i then (j : Int) else 0) 3, cellT ba #[.slice (some ⟨a, 0, none⟩) (s.size + 1) (s.size + 1)] 22] wr)) (fun sk _ => s.size + 1 - (intOf sk).toNat)
  case atStart => exact ⟨0, rfl, Nat.zero_le _, by simpa using HO⟩
  case round =>
    clear HO
    obtain ⟨i, rfl, hi, hO⟩ := hrel
    by_cases hlt : i < s.size + 1
    · have hlt' : (i : Int) < (s.size : Int) + 1 := by omega
      obtain ⟨c1, z1⟩ := hO.out.ints (j := i) 0 rfl (by omega)
      have c2 := (hO.out.cell1 (x := ba) (v := .slice (some ⟨a, 0, none⟩) (s.size + 1) (s.size + 1)) (t := 22) 1 rfl).1
      have hO2 := hO.out.store (x := a) (cs := valsI s.size fun j => if j < i then (j : Int) else 0) (t := 3) 0 rfl i (.int .i64 i)
      have e1 : valsI s.size (upI (fun j => if j < i then (j : Int) else 0) i i) = valsI s.size (fun j => if j < i + 1 then (j : Int) else 0) := valsI_congr fun j _ => by
        unfold upI
        by_cases e : j = i
        · rw [if_pos e, if_pos (by omega), e]
        · rw [if_neg e]
          show (if j < i then (j : Int) else 0) = _
          by_cases e2 : j < i
          · rw [if_pos e2, if_pos (by omega)]
          · rw [if_neg e2, if_neg (by omega)]
      rw [valsI_set, e1] at hO2
      have HO2 : Hid (Own w [cellT a (valsI s.size fun j => if j < i + 1 then (j : Int) else 0) 3, cellT ba #[.slice (some ⟨a, 0, none⟩) (s.size + 1) (s.size + 1)] 22] (wr.setCell ⟨a, i, none⟩ (.int .i64 i))) := Lib.hid hO2
      clear hO hO2 e1
      go_wp2_with fail
      go_roundw
      case rel => exact ⟨i + 1, by go_num, by omega, HO2⟩
      case measure => simp [intOf]; omega
    · have hend : ¬ ((i : Int) < (s.size : Int) + 1) := by omega
      have hO2 := hO.out
      rw [valsI_congr (g := fun j => (j : Int)) (fun j _ => by simp; omega)] at hO2
      have HO2 : Hid (Own w ([cellT ba #[.slice (some ⟨a, 0, none⟩) (s.size + 1) (s.size + 1)] 22, cellT a (valsI s.size fun j => (j : Int)) 3] ++ marksT []) wr) := Lib.hid (Own.swap [_] [_] hO2)
      clear hO hO2 hlt
      go_wp2_with fail
      refine (wpIn_wide (n := 5)).1 ?_
      refine wpIn_loop (RchI2 w s ps ao cap ba) (fun a' _ => (intOf (a'.tmps.getD 7 undef) + 1).toNat) ?_ ?_
      · refine ⟨[], ?_⟩
        (repeat apply Exists.intro)
        refine ⟨⟨ps.length, a, _, fun j => (j : Int), rfl, by omega, Nat.le_refl _, hle, ?_, HO2⟩, rfl⟩
        rw [List.drop_length]
        exact Lib.hid fun j hj => isG_nil hj
      · clear HO2 hle
        rintro _ wr ⟨Ds, u2, u3, u4, u6, u7, u8, u9, u10, u11, u12, u13, u14, u15, u16, u17, u18, u19, u20, u21, u22, u23, u24, u25, u26, u27, u28, u29, u30, u31, u32, u33, u34, u35, u36, u37, u38, u39, u40, u41, u42, u43, u44, u45, u46, u47, u48, u49, u50, u51, u52, u53, u54, u55, u56, u57, u58, u59, u60, u61, u62, u63, u64, u65, u66, ⟨k, a, m, f, rfl, hm, hk, hle, hG, hO⟩, rfl⟩
        dsimp only
        have c5 := (hO.out.cell1 (x := ba) (v := .slice (some ⟨a, 0, none⟩) (s.size + 1) (s.size + 1)) (t := 22) 0 rfl).1
        by_cases hk0 : k = 0
        · subst hk0
          have hm1 : m = -1 := by omega
          subst hm1
          have hv : valsI s.size f = valsI s.size (gEnd ps s.data.toList) := valsI_congr fun j hj => gEnd_of (by have := hG.out j (by omega); rwa [List.drop_zero] at this)
          have Hv := Lib.hid hv
          clear hv
          gi_wp2_with fail
          go_wp2_with fail
          refine leaves_marks Ds _ hO.out ?_
          intro W' hO'
          exact ⟨_, by simp [results, Tryd.results86, go_sem], ⟨a, rfl, by rw [← Hv.out]; exact hO'.obj 1 rfl, hle, hO'.frm⟩⟩
        · obtain ⟨j, rfl⟩ : ∃ j, k = j + 1 := ⟨k - 1, by omega⟩
          obtain rfl : m = (j : Int) := by omega
          have hO1 := hO.out.box (valsI s.size fun _ => 0) 3
          have hO2 := hO1.box #[.slice (some ⟨wr.heap.size, 0, none⟩) (s.size + 1) (s.size + 1)] 22
          have hO3 := own_mark _ (marksT Ds) [] _ hO1
          have hO4 := own_mark _ (_ :: marksT Ds) [] _ (hO3.box #[.slice (some ⟨wr.heap.size, 0, none⟩) (s.size + 1) (s.size + 1)] 22)
          rw [World.size_alloc] at hO4
          clear hO1 hO2 hO3
          have HG := hG
          gi_wp2_with fail
          obtain ⟨W3, hW3⟩ : ∃ W, W = ((wr.alloc (.cells (valsI s.size fun _ => 0) 3)).alloc (.cells #[.slice (some ⟨wr.heap.size, 0, none⟩) (s.size + 1) (s.size + 1)] 22)) := ⟨_, rfl⟩
          obtain ⟨bh, hbh⟩ : ∃ b, b = wr.heap.size + 1 := ⟨_, rfl⟩
          obtain ⟨hb, hhb⟩ : ∃ b, b = wr.heap.size := ⟨_, rfl⟩
          rw [← hW3, ← hbh, ← hhb] at hO4
          rw [← hW3, ← hbh, ← hhb]
          have hle2 : w.heap.size ≤ hb := by rw [hhb]; exact hO.out.frm.size
          have HO4 : Hid (Own w ([cellT ba #[.slice (some ⟨a, 0, none⟩) (s.size + 1) (s.size + 1)] 22, cellT a (valsI s.size f) 3, cellT bh #[.slice (some ⟨hb, 0, none⟩) (s.size + 1) (s.size + 1)] 22, cellT hb (valsI s.size fun _ => 0) 3] ++ marksT Ds) W3) := Lib.hid hO4
          clear hO hO4 hW3 hbh hhb c5 hG
          refine wpIn_loop (RchI3 w s ps ao cap ba j a bh hb (ps[j]'(by omega)) f) (fun a' _ => s.size + 1 - (intOf (a'.tmps.getD 38 undef)).toNat) ?_ ?_
          · refine ⟨Ds, ?_⟩
            (repeat apply Exists.intro)
            exact ⟨⟨0, fun _ => 0, rfl, Nat.zero_le _, Lib.hid fun q hq => absurd hq (Nat.not_lt_zero _), HO4⟩, rfl⟩
          · clear HO4
            rintro _ wr ⟨Ds, u2, u3, u4, u6, u9, u10, u11, u12, u13, u14, u15, u16, u17, u18, u19, u20, u21, u22, u23, u24, u25, u26, u27, u28, u29, u30, u31, u32, u33, u34, u35, u36, u38, u39, u40, u41, u42, u43, u44, u45, u46, u47, u48, u49, u50, u51, u52, u53, u54, u55, u56, u57, u58, u59, u60, u61, u62, u63, u64, u65, u66, ⟨i, h, rfl, hi, hh, hO⟩, rfl⟩
            dsimp only
            by_cases hlt : i < s.size + 1
            · have hlt' : (i : Int) < (s.size : Int) + 1 := by omega
              have hj2 : j < ps.length := by omega
              have hO5 := own_mark [cellT ba #[.slice (some ⟨a, 0, none⟩) (s.size + 1) (s.size + 1)] 22, cellT a (valsI s.size f) 3, cellT bh #[.slice (some ⟨hb, 0, none⟩) (s.size + 1) (s.size + 1)] 22, cellT hb (valsI s.size h) 3] (marksT Ds) [] _ (hO.out.box #[.int .i64 i] 3)
              clear hO
              have d1 := (hO5.cell1 (x := bh) (v := .slice (some ⟨hb, 0, none⟩) (s.size + 1) (s.size + 1)) (t := 22) 2 rfl).1
              have d2 := (hO5.cell1 (x := wr.heap.size) (v := .int .i64 i) (t := 3) 4 rfl).1
              obtain ⟨d3, d4⟩ := hO5.ints (x := hb) (j := i) 3 rfl (by omega)
              have hO6 := hO5.store (x := hb) (cs := valsI s.size h) (t := 3) 3 rfl i (.int .i64 (-1))
              rw [valsI_set] at hO6
              have HO6 := Lib.hid hO6
              clear hO5 hO6
              gi_wp2_with fail
              obtain ⟨W5, hW5⟩ : ∃ W, W = (wr.alloc (.cells #[.int .i64 i] 3)).setCell ⟨hb, i, none⟩ (.int .i64 (-1)) := ⟨_, rfl⟩
              obtain ⟨bi, hbi⟩ : ∃ b, b = wr.heap.size := ⟨_, rfl⟩
              have hO6 := HO6.out
              rw [← hW5, ← hbi] at hO6
              rw [← hW5, ← hbi]
              have HO7 : Hid (Own w ([cellT ba #[.slice (some ⟨a, 0, none⟩) (s.size + 1) (s.size + 1)] 22, cellT a (valsI s.size f) 3, cellT bh #[.slice (some ⟨hb, 0, none⟩) (s.size + 1) (s.size + 1)] 22, cellT hb (valsI s.size (upI h i (-1))) 3, cellT bi #[.int .i64 i] 3] ++ marksT Ds) W5) := Lib.hid hO6
              clear HO6 hO6 hW5 hbi d1 d2 d3 d4
              have e2 := (HO7.out.cell1 (x := bi) (v := .int .i64 i) (t := 3) 4 rfl).1
              obtain ⟨g, hao, ⟨p0, p1, p2, p3⟩, hg⟩ := (HP.out.still HO7.out.frm).at' j hj2
              subst hao
              have hen := ends_own ps[j] s i
              have hpc := hr _ (List.getElem_mem hj2)
              have htx := hsm.at hj2
              have Hpc := Lib.hid hpc
              clear hpc
              generalize hp : ps[j] = p at *
              unfold pcV at hen
              have Hen := Lib.hid hen
              clear hen
              refine wpIn_wide.2 ?_
              go_region_held3 (fun w' => w'.cell? ⟨g, j * 4, none⟩ = some (.int .i64 p.cls) ∧ w'.cell? ⟨g, j * 4 + 1, none⟩ = some (.int .i64 p.lo) ∧ w'.cell? ⟨g, j * 4 + 2, none⟩ = some (.int .i64 p.hi) ∧ w'.cell? ⟨g, j * 4 + 3, none⟩ = some (.string p.txt) ∧ w'.cell? ⟨bi, 0, none⟩ = some (.int .i64 i))
                (first | exact ⟨p0, p1, p2, p3, e2⟩ | exact ⟨p0', p1', p2', p3', e2'⟩)
                (first | (go_at_call 119; refine (Hen.out _).mono ?_; rintro e w7 ⟨pe, pf, pg, rfl, ho, f7⟩; have p0' := f7.cell p0 (fun h => h); have p1' := f7.cell p1 (fun h => h); have p2' := f7.cell p2 (fun h => h); have p3' := f7.cell p3 (fun h => h); have e2' := f7.cell e2 (fun h => h)))
              have hO8 := ho _ _ HO7.out.drew
              clear p0' p1' p2' p3' e2' HO7 p0 p1 p2 p3 e2 f7 ho
              gi_wp2_with fail
              refine wpIn_range_own (F := Fence.wide) (n := 5) rfl (by decide) (gf := 131) (lb := #[.pointer (some ⟨pe, 0, none⟩), .pointer (some ⟨pf, 0, none⟩), .pointer (some ⟨pg, 0, none⟩)]) rfl trivial (enters_of Tryd.func131 (by kernel_rfl) rfl)
                (ends_iter 4 pe pf pg (by decide) p s i (by omega) hs Hpc.out (by omega)) (fun _ => rfl) w
                (fun pre X => X = [cellT ba #[.slice (some ⟨a, 0, none⟩) (s.size + 1) (s.size + 1)] 22, cellT a (valsI s.size f) 3, cellT bh #[.slice (some ⟨hb, 0, none⟩) (s.size + 1) (s.size + 1)] 22, cellT hb (valsI s.size (upI h i (mxG f pre))) 3, cellT bi #[.int .i64 i] 3] ++ marksT Ds) (fun _ _ _ => False) _ hO8 rfl ?round ?done ?stop
              case stop => exact fun _ _ _ _ _ _ _ h => h.elim
              case round =>
                rintro l pre x W L' rfl hV
                have hxn : x ≤ s.size := by
                  have hm : x ∈ endsL p s.data.toList i := hV.subset (by simp)
                  have := (mem_ends.1 hm).1
                  omega
                dsimp only [encI]
                gi_wp2_with fail
                refine ⟨trivial, ?_⟩
                intro M W2 hO9
                have d1 := (hO9.cell1 (x := bh) (v := .slice (some ⟨hb, 0, none⟩) (s.size + 1) (s.size + 1)) (t := 22) 2 rfl).1
                have d2 := (hO9.cell1 (x := bi) (v := .int .i64 i) (t := 3) 4 rfl).1
                obtain ⟨d3, d4⟩ := hO9.ints (x := hb) (j := i) 3 rfl (by omega)
                rw [show upI h i (mxG f pre) i = mxG f pre by unfold upI; rw [if_pos rfl]] at d3
                have d5 := (hO9.cell1 (x := ba) (v := .slice (some ⟨a, 0, none⟩) (s.size + 1) (s.size + 1)) (t := 22) 0 rfl).1
                obtain ⟨d6, -⟩ := hO9.ints (x := a) (j := x) 1 rfl hxn
                have n1 := hO9.ne (x := bh) (y := hb) (cs := #[.slice (some ⟨hb, 0, none⟩) (s.size + 1) (s.size + 1)]) (ds := valsI s.size (upI h i (mxG f pre))) (t := 22) (u := 3) 2 3 rfl rfl (by decide)
                have n2 := hO9.ne (x := bi) (y := hb) (cs := #[.int .i64 i]) (ds := valsI s.size (upI h i (mxG f pre))) (t := 3) (u := 3) 4 3 rfl rfl (by decide)
                have n3 := hO9.ne (x := ba) (y := hb) (cs := #[.slice (some ⟨a, 0, none⟩) (s.size + 1) (s.size + 1)]) (ds := valsI s.size (upI h i (mxG f pre))) (t := 22) (u := 3) 0 3 rfl rfl (by decide)
                have n4 := hO9.ne (x := a) (y := hb) (cs := valsI s.size f) (ds := valsI s.size (upI h i (mxG f pre))) (t := 3) (u := 3) 1 3 rfl rfl (by decide)
                have hOs := hO9.drew.store (x := hb) (cs := valsI s.size (upI h i (mxG f pre))) (t := 3) 3 rfl i (.int .i64 (max (mxG f pre) (f x)))
                have eS : valsI s.size (upI (upI h i (mxG f pre)) i (max (mxG f pre) (f x))) = valsI s.size (upI h i (mxG f (pre ++ [x]))) := valsI_congr fun q _ => by
                  rw [mx_snoc]
                  unfold upI
                  by_cases e : q = i
                  · rw [if_pos e, if_pos e]
                  · rw [if_neg e, if_neg e, if_neg e]
                rw [valsI_set, eS] at hOs
                have HOs := Lib.hid hOs
                have hxn' : (x : Int) < (s.size : Int) + 1 := by omega
                clear hO9 hOs eS hV
                refine wpIn_block ?_
                refine region_round (S := fun w' => w'.cell? ⟨bh, 0, none⟩ = some (.slice (some ⟨hb, 0, none⟩) (s.size + 1) (s.size + 1)) ∧ w'.cell? ⟨bi, 0, none⟩ = some (.int .i64 i) ∧ w'.cell? ⟨ba, 0, none⟩ = some (.slice (some ⟨a, 0, none⟩) (s.size + 1) (s.size + 1)) ∧ w'.cell? ⟨a, x, none⟩ = some (.int .i64 (f x))) (by kernel_rfl) (by kernel_rfl) ?hq ⟨d1, d2, d5, d6⟩ (fun hHeld => ?_)
                case hq => rintro ⟨_, _, h⟩; exact h
                refine wpAnyH_take (i := 0) (oi := ⟨some 52, _, _, _, _, _⟩) (v := .slice (some ⟨hb, 0, none⟩) (s.size + 1) (s.size + 1)) rfl (by kernel_rfl) (by kernel_rfl) (by kernel_rfl) (fun _ _ _ h => h) (.inl ⟨by rfl, fun w hw => by dsimp only at hw; go_simp⟩) hHeld ?_
                simp only [Act.put, List.setIfInBounds_toArray, List.set_cons_zero, List.set_cons_succ]
                refine wpAnyH_take (i := 1) (oi := ⟨some 53, _, _, _, _, _⟩) (v := .int .i64 i) rfl (by kernel_rfl) (by kernel_rfl) (by kernel_rfl) (fun _ _ _ h => h) (.inl ⟨by rfl, fun w hw => by dsimp only at hw; go_simp⟩) hHeld ?_
                simp only [Act.put, List.setIfInBounds_toArray, List.set_cons_zero, List.set_cons_succ]
                refine wpAnyH_take (i := 2) (oi := ⟨some 54, _, _, _, _, _⟩) (v := .slice (some ⟨hb, 0, none⟩) (s.size + 1) (s.size + 1)) rfl (by kernel_rfl) (by kernel_rfl) (by kernel_rfl) (fun _ _ _ h => h) (.inl ⟨by rfl, fun w hw => by dsimp only at hw; go_simp⟩) hHeld ?_
                simp only [Act.put, List.setIfInBounds_toArray, List.set_cons_zero, List.set_cons_succ]
                refine wpAnyH_take (i := 3) (oi := ⟨some 55, _, _, _, _, _⟩) (v := .int .i64 i) rfl (by kernel_rfl) (by kernel_rfl) (by kernel_rfl) (fun _ _ _ h => h) (.inl ⟨by rfl, fun w hw => by dsimp only at hw; go_simp⟩) hHeld ?_
                simp only [Act.put, List.setIfInBounds_toArray, List.set_cons_zero, List.set_cons_succ]
                refine wpAnyH_take (i := 4) (oi := ⟨some 56, _, _, _, _, _⟩) (v := .pointer (some ⟨hb, i, none⟩)) rfl (by kernel_rfl) (by kernel_rfl) (by kernel_rfl) (fun _ _ _ h => h) (.inl ⟨by rfl, fun w hw => by dsimp only at hw; go_simp⟩) hHeld ?_
                simp only [Act.put, List.setIfInBounds_toArray, List.set_cons_zero, List.set_cons_succ]
                refine wpAnyH_take (i := 6) (oi := ⟨some 58, _, _, _, _, _⟩) (v := .slice (some ⟨a, 0, none⟩) (s.size + 1) (s.size + 1)) rfl (by kernel_rfl) (by kernel_rfl) (by kernel_rfl) (fun _ _ _ h => h) (.inl ⟨by rfl, fun w hw => by dsimp only at hw; go_simp⟩) hHeld ?_
                simp only [Act.put, List.setIfInBounds_toArray, List.set_cons_zero, List.set_cons_succ]
                refine wpAnyH_take (i := 7) (oi := ⟨some 59, _, _, _, _, _⟩) (v := .int .i64 x) rfl (by kernel_rfl) (by kernel_rfl) (by kernel_rfl) (fun _ _ _ h => h) (.inl ⟨by rfl, fun w hw => by dsimp only at hw; go_simp⟩) hHeld ?_
                simp only [Act.put, List.setIfInBounds_toArray, List.set_cons_zero, List.set_cons_succ]
                refine wpAnyH_take (i := 8) (oi := ⟨some 60, _, _, _, _, _⟩) (v := .pointer (some ⟨a, x, none⟩)) rfl (by kernel_rfl) (by kernel_rfl) (by kernel_rfl) (fun _ _ _ h => h) (.inl ⟨by rfl, fun w hw => by dsimp only at hw; go_simp⟩) hHeld ?_
                simp only [Act.put, List.setIfInBounds_toArray, List.set_cons_zero, List.set_cons_succ]
                refine wpAnyH_take (i := 9) (oi := ⟨some 61, _, _, _, _, _⟩) (v := .int .i64 (f x)) rfl (by kernel_rfl) (by kernel_rfl) (by kernel_rfl) (fun _ _ _ h => h) (.inl ⟨by rfl, fun w hw => by dsimp only at hw; go_simp⟩) hHeld ?_
                simp only [Act.put, List.setIfInBounds_toArray, List.set_cons_zero, List.set_cons_succ]
                refine wpAnyH_ready (rs := [5]) (by kernel_rfl) (by simp) ?_
                refine AllReadyH.cons (o := ⟨some 57, _, _, _, _, _⟩) rfl (fun K hK => ?_) AllReadyH.nil
                go_simp
                refine hK _ _ hHeld (fun hHeld => ?_)
                clear hK K
                refine wpAnyH_take (i := 10) (oi := ⟨some 62, _, _, _, _, _⟩) (v := .int .i64 (max (mxG f pre) (f x))) rfl (by kernel_rfl) (by kernel_rfl) (by kernel_rfl) (fun _ _ _ h => h) (.inl ⟨by rfl, fun w hw => by dsimp only at hw; go_simp⟩) hHeld ?_
                simp only [Act.put, List.setIfInBounds_toArray, List.set_cons_zero, List.set_cons_succ]
                refine wpAnyH_take (i := 11) (oi := ⟨some 63, _, _, _, _, _⟩) (v := .pointer (some ⟨hb, i, none⟩)) rfl (by kernel_rfl) (by kernel_rfl) (by kernel_rfl) (fun _ _ _ h => h) (.inl ⟨by rfl, fun w hw => by dsimp only at hw; go_simp⟩) hHeld ?_
                simp only [Act.put, List.setIfInBounds_toArray, List.set_cons_zero, List.set_cons_succ]
                refine wpAnyH_ready (rs := [12]) (by kernel_rfl) (by simp) ?_
                refine AllReadyH.cons (o := ⟨none, _, _, _, _, _⟩) rfl (fun K hK => ?_) AllReadyH.nil
                go_simp
                refine hK _ _ ⟨by go_simp, by go_simp, by go_simp, by go_simp⟩ (fun hHeld => ?_)
                clear hK K
                refine wpAnyH_done (by kernel_rfl) ?_ _
                exact ⟨_, rfl, HOs.out⟩
              case done =>
                rintro D xs W L' M rfl rfl hO9
                have hO10 := own_del [cellT ba #[.slice (some ⟨a, 0, none⟩) (s.size + 1) (s.size + 1)] 22, cellT a (valsI s.size f) 3, cellT bh #[.slice (some ⟨hb, 0, none⟩) (s.size + 1) (s.size + 1)] 22, cellT hb (valsI s.size (upI h i (mxG f (endsL p s.data.toList i)))) 3] _ _ (own_mark [cellT ba #[.slice (some ⟨a, 0, none⟩) (s.size + 1) (s.size + 1)] 22, cellT a (valsI s.size f) 3, cellT bh #[.slice (some ⟨hb, 0, none⟩) (s.size + 1) (s.size + 1)] 22, cellT hb (valsI s.size (upI h i (mxG f (endsL p s.data.toList i)))) 3, cellT bi #[.int .i64 i] 3] (marksT Ds) M _ hO9)
                have HO10 : Hid (Own w ([cellT ba #[.slice (some ⟨a, 0, none⟩) (s.size + 1) (s.size + 1)] 22, cellT a (valsI s.size f) 3, cellT bh #[.slice (some ⟨hb, 0, none⟩) (s.size + 1) (s.size + 1)] 22, cellT hb (valsI s.size (upI h i (mxG f (endsL p s.data.toList i)))) 3] ++ marksT (D :: Ds)) W) := Lib.hid hO10
                clear hO9 hO10
                gi_wp2_with fail
                refine ⟨⟨D :: Ds, ?_⟩, ?_⟩
                · (repeat apply Exists.intro)
                  refine ⟨⟨i + 1, upI h i (mxG f (endsL p s.data.toList i)), by go_num, by omega, Lib.hid fun q hq => ?_, HO10⟩, rfl⟩
                  unfold upI
                  by_cases e : q = i
                  · rw [if_pos e, e, hp]
                  · rw [if_neg e, hp]
                    exact hh.out q (by omega)
                · simp [intOf]
                  omega
            · have hend : ¬ ((i : Int) < (s.size : Int) + 1) := by omega
              obtain rfl : i = s.size + 1 := by omega
              have d1 := hO.out.cell1 (x := bh) (v := .slice (some ⟨hb, 0, none⟩) (s.size + 1) (s.size + 1)) (t := 22) 2 rfl
              have d5 := hO.out.cell1 (x := ba) (v := .slice (some ⟨a, 0, none⟩) (s.size + 1) (s.size + 1)) (t := 22) 0 rfl
              obtain ⟨d1, -⟩ := d1
              obtain ⟨d5, d6⟩ := d5
              have hO2 := hO.out.store (x := ba) (cs := #[.slice (some ⟨a, 0, none⟩) (s.size + 1) (s.size + 1)]) (t := 22) 0 rfl 0 (.slice (some ⟨hb, 0, none⟩) (s.size + 1) (s.size + 1))
              have hO3 := own_del [cellT ba #[.slice (some ⟨hb, 0, none⟩) (s.size + 1) (s.size + 1)] 22] _ _ hO2
              have hO4 := own_del [cellT ba #[.slice (some ⟨hb, 0, none⟩) (s.size + 1) (s.size + 1)] 22] _ _ hO3
              have HO4 := Lib.hid hO4
              clear hO hO2 hO3 hO4 hlt
              gi_wp2_with fail
              refine ⟨⟨Ds, ?_⟩, ?_⟩
              · (repeat apply Exists.intro)
                refine ⟨⟨j, hb, (j : Int) - 1, h, rfl, by omega, by omega, hle2, Lib.hid fun q hq => ?_, HO4⟩, rfl⟩
                rw [hh.out q (by omega), List.drop_eq_getElem_cons (by omega : j < ps.length)]
                exact isG_cons f (fun q hq => HG.out q hq)
              · simp [intOf]
                omega
end Go.Proofs.YtgnjakaamgeibaaDoor
