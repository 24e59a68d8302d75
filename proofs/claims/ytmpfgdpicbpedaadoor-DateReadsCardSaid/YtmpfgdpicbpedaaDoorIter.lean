/-
  date.tokens: the parts of a layout, as an iterator. Conditions: the layout is within reach.
-/
import Derived.Test.YtmpfgdpicbpedaaDoorTok
import Derived.Lib.IndexBytes
namespace Go.Proofs.YtmpfgdpicbpedaaDoor
open Go.RowKit Go.Shelf
attribute [local go_sem] Oper.semAt_some

theorem tokens_any (s : ByteArray) (w : World) : Calls Tryd.prog 45 #[.string s] w fun e w' => e = .returned (.func (.func 58) #[] #[.pointer (some ⟨w.heap.size, 0, none⟩)]) ∧ w' = w.alloc (.cells #[.string s] 9) := by
  have hmf : ∀ (fn : Fn) (first cap : Array Value) (w : World), (Instr.makeFunc fn first cap).run Tryd.prog w = .ok (.func fn first cap) w := fun _ _ _ _ => rfl
  go_enter Tryd.func45, Tryd.ntmps45
  go_wp2
  go_ret
  exact ⟨rfl, rfl⟩

def encT (t : List UInt8) : Array Value := #[tokV t]
def strAt (w : World) (c : Nat) : Nat := match w.cell? ⟨c, 0, none⟩ with | some (.string s) => s.size | _ => 0
theorem str_ne {s : ByteArray} (h : ¬ s.size = 0) : (!s.toList.isEmpty) = true := by
  rw [toList_data]
  have : s.data.toList.length ≠ 0 := by rw [Array.length_toList]; exact h
  cases hl : s.data.toList with
  | nil => rw [hl] at this; exact absurd rfl this
  | cons a l => rfl

set_option maxRecDepth 100000 in
set_option maxHeartbeats 4000000 in
theorem tokens_iter (n c : Nat) (hn : 1 ≤ n) (s : ByteArray) (hs : s.size ≤ 1099511627776) :
    IterOwn Fence.wide n Tryd.prog 58 #[.pointer (some ⟨c, 0, none⟩)] encT [cellT c #[.string s] 9] (fun xs => xs = parts s.data.toList) (fun pre => pre <+: parts s.data.toList) (fun pre x => pre ++ [x] <+: parts s.data.toList) := by
  intro l w0 M Mx Lm W hO hM hY
  refine callsIn_of_wp Tryd.func58 rfl trivial ?_ rfl
  simp only [Tryd.ntmps58, List.size_toArray, List.length_cons, List.length_nil, Nat.reduceAdd, Nat.reduceSub, Array.replicate_succ, Array.replicate_zero, List.push_toArray, List.append_toArray, List.nil_append, List.cons_append]
  gi_wp2
  gi_loopw [3] (fun _ wr => ∃ (pre rest : List (List UInt8)) (s' : ByteArray) (Lm : List Thing), M pre Lm ∧ Own w0 (Lm ++ [cellT c #[.string s'] 9]) wr ∧ s'.size ≤ s.size ∧ rest = parts s'.data.toList ∧ parts s.data.toList = pre ++ rest)
    (fun _ wr => strAt wr c)
  case atStart => exact ⟨[], _, s, Lm, hM, hO, Nat.le_refl _, rfl, rfl⟩
  case round =>
    obtain ⟨pre, rest, s', Lm, hM', hO', hle, hrest, hv⟩ := hrel
    have hc := (hO'.cell1 Lm.length (get_end _ _)).1
    have hz := (hO'.cell1 Lm.length (get_end _ _)).2
    have hsl : s'.data.toList.length = s'.size := by rw [Array.length_toList]; rfl
    by_cases h0 : s'.size = 0
    · have hl : s'.data.toList = [] := List.eq_nil_of_length_eq_zero (by omega)
      have hfin : pre = parts s.data.toList := by rw [hv, hrest, hl]; simp [parts_nil]
      have Hfin := Lib.hid hfin
      have t1 : s'.toList = [] := by rw [toList_data, hl]
      have t2 : (!s'.toList.isEmpty) = false := by rw [t1]; rfl
      clear hfin hv hrest hsl hl
      gi_wp2
      go_end0
      exact ⟨⟨_, rfl⟩, .inl ⟨pre, Lm, _, Hfin.out, hM', hO'⟩⟩
    · have t2 : (!s'.toList.isEmpty) = true := str_ne h0
      have hne : s'.data.toList ≠ [] := fun e => by rw [e] at hsl; simp at hsl; omega
      have hpc := parts_cons hne
      have hfl := fst_len hne
      obtain ⟨x, hx⟩ : ∃ x, x = fst s'.data.toList := ⟨_, rfl⟩
      rw [← hx] at hpc hfl
      have hv2 : parts s.data.toList = pre ++ [x] ++ parts (s'.data.toList.drop x.length) := by rw [hv, hrest, hpc, List.append_assoc]; rfl
      have Hv := Lib.hid hv2
      have Hx := Lib.hid hx
      have hxl : x.length ≤ s'.size := by omega
      have hfl1 := hfl.1
      clear hv hrest hsl hne hpc hv2 hx hfl
      gi_wp2_with fail
      refine ⟨trivial, (callsIn_wide.2 (first_tok s' (by omega) (by omega) _)).mono ?_⟩
      rintro e w' ⟨rfl, hf⟩
      rw [← Hx.out]
      obtain ⟨xs, hxs⟩ : ∃ xs : ByteArray, (⟨x.toArray⟩ : ByteArray) = xs := ⟨_, rfl⟩
      have hxsz : xs.size = x.length := by rw [← hxs]; show x.toArray.size = _; simp
      have h2 := (hO'.still hf).box #[.string xs, .bool (isF x)] 74
      unfold tokV strV
      rw [hxs]
      obtain ⟨tb, htb⟩ : ∃ b, b = w'.heap.size := ⟨_, rfl⟩
      obtain ⟨w2, hw2⟩ : ∃ w2, w2 = w'.alloc (.cells #[.string xs, .bool (isF x)] 74) := ⟨_, rfl⟩
      have h3 : Own w0 (Lm ++ ([cellT c #[.string s'] 9] ++ [cellT tb #[.string xs, .bool (isF x)] 74])) w2 := by
        rw [← List.append_assoc, hw2, htb]
        exact h2
      have c2 := (h3.obj (x := tb) (cs := #[.string xs, .bool (isF x)]) (t := 74) (Lm.length + 1) (by simp))
      obtain ⟨d0, d1, e0, e1⟩ := cells2 c2
      obtain ⟨fn, tmps, assign, body, hy, hR⟩ := hY pre x w2 Lm _ hM' h3 ⟨_, Hv.out.symm⟩
      dsimp only [encT, tokV, strV] at hy
      rw [hxs] at hy
      rw [hw2, htb] at d0 d1
      rw [hw2] at hy
      have hsa : strAt wr c = s'.size := by unfold strAt; rw [hc]
      have Hsa := Lib.hid hsa
      have hxp : 1 ≤ x.length := hfl1
      clear hsa
      have Hxs := Lib.hid hxs
      have Hxsz := Lib.hid hxsz
      have Hw2 := Lib.hid hw2
      have Htb := Lib.hid htb
      clear h2 hO' hc hz hxs hxsz e0 e1 c2 h3 htb
      gi_wp2_with fail
      rw [← Hw2.out]
      refine hR.mono ?_
      rintro e W' (⟨rfl, Lm', hM2, hO2⟩ | ⟨rfl, Lm', hM2, hO2⟩)
      · rw [← Htb.out]
        obtain ⟨g0, g1, -⟩ := cells2 (hO2.obj (x := tb) (cs := #[.string xs, .bool (isF x)]) (t := 74) (Lm'.length + 1) (by simp))
        obtain ⟨gc, gz⟩ := hO2.cell1 (x := c) (v := .string s') (t := 9) Lm'.length (by simp)
        have hxl2 : xs.size ≤ s'.size := by rw [Hxsz.out]; exact hxl
        gi_wp2
        have e1 : strAt (W'.setCell ⟨c, 0, none⟩ (.string (s'.extract xs.size s'.size))) c = (s'.extract xs.size s'.size).size := by
          unfold strAt
          rw [World.cell?_setCell_same' _ _ _ (by rw [gc]; rfl)]
        refine ⟨⟨pre ++ [x], _, s'.extract xs.size s'.size, Lm', hM2, ?_, ?_, rfl, ?_⟩, ?_⟩
        · have h := hO2.store (x := c) (cs := #[.string s']) (t := 9) Lm'.length (by simp) 0 (.string (s'.extract xs.size s'.size))
          rw [List.set_append_right (h := Nat.le_refl _), Nat.sub_self] at h
          have h4 : Own w0 ((Lm' ++ [cellT c #[.string (s'.extract xs.size s'.size)] 9]) ++ [cellT tb #[.string xs, .bool (isF x)] 74]) (W'.setCell ⟨c, 0, none⟩ (.string (s'.extract xs.size s'.size))) := by
            rw [List.append_assoc]
            exact h
          exact h4.init [cellT tb #[.string xs, .bool (isF x)] 74]
        · rw [ByteArray.size_extract]; omega
        · rw [Hv.out, Lib.extract_to_end, Hxsz.out]
        · rw [e1, Hsa.out, ByteArray.size_extract, Hxsz.out]
          omega
      · gi_wp2
        refine bodyPost_ret (results_none rfl _ _ _) rfl ?_
        exact ⟨⟨_, rfl⟩, .inr ⟨_, Lm', _, ⟨_, Hv.out.symm⟩, hM2, hO2⟩⟩
end Go.Proofs.YtmpfgdpicbpedaaDoor
