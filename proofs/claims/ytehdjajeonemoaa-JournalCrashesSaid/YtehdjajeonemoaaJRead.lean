/-
  journal.read: the records of a string, as an iterator. Conditions: the string is in reach.
-/
import Derived.Test.YtehdjajeonemoaaRange
import Derived.Test.YtehdjajeonemoaaJNum
namespace Go.Proofs.Ytehdjajeonemoaa
open Go.RowKit Go.Shelf
attribute [local go_sem] Oper.semAt_some

theorem jread_any (s : ByteArray) (w : World) : Calls Try.prog 60 #[.string s] w fun e w' => e = .returned (.func (.func 65) #[] #[.pointer (some ⟨w.heap.size, 0, none⟩)]) ∧ w' = w.alloc (.cells #[.string s] 9) := by
  have hmf : ∀ (fn : Fn) (first cap : Array Value) (w : World), (Instr.makeFunc fn first cap).run Try.prog w = .ok (.func fn first cap) w := fun _ _ _ _ => rfl
  go_enter Try.func60, Try.ntmps60
  go_wp2
  go_ret
  exact ⟨rfl, rfl⟩

def encR (p : List UInt8 × Bool) : Array Value := #[.string ⟨p.1.toArray⟩, .bool p.2]
def strAt (w : World) (c : Nat) : Nat := match w.cell? ⟨c, 0, none⟩ with | some (.string s) => s.size | _ => 0

theorem Own.cell1 {w0 w : World} {L : List Thing} (h : Own w0 L w) {x : Nat} {v : Value} {t : TypeId} (i : Nat) (hi : L[i]? = some (cellT x #[v] t)) : w.cell? ⟨x, 0, none⟩ = some v ∧ w.frozen? ⟨x, 0, none⟩ = false :=
  ⟨by rw [cell_of_row w x 0 _ _ _ (h.obj i hi)]; rfl, frozen_of_row w x 0 _ _ (h.obj i hi)⟩
theorem get_end (L : List Thing) (A : Thing) : (L ++ [A])[L.length]? = some A := by simp

theorem toList_data (s : ByteArray) : s.toList = s.data.toList := ByteArray.toList_eq s
theorem numI_lo (l : List UInt8) : -18446744073709551616 ≤ numI l := by unfold numI; split <;> omega
theorem numI_hi (l : List UInt8) : numI l ≤ 9223372036854775807 ∨ 8 < l.length := by
  by_cases h : 8 < l.length
  · exact .inr h
  · refine .inl ?_
    have h1 := numN_lt l
    have h2 : 256 ^ l.length ≤ 256 ^ 8 := Nat.pow_le_pow_right (by decide) (by omega)
    have h3 : (256 : Nat) ^ 8 = 18446744073709551616 := by decide
    unfold numI
    split <;> omega
theorem str_ne {s : ByteArray} (h : ¬ s.size = 0) : (!s.toList.isEmpty) = true := by
  rw [toList_data]
  have : s.data.toList.length ≠ 0 := by rw [Array.length_toList]; exact h
  cases hl : s.data.toList with
  | nil => rw [hl] at this; exact absurd rfl this
  | cons a l => rfl

set_option maxRecDepth 100000 in
set_option maxHeartbeats 4000000 in
theorem read_iter (n c : Nat) (hn : 1 ≤ n) (s : ByteArray) (hs : s.size ≤ 1099511627776) :
    IterOwn Fence.wide n Try.prog 65 #[.pointer (some ⟨c, 0, none⟩)] encR [cellT c #[.string s] 9] (fun xs => xs = visL s.data.toList) (fun pre => pre <+: visL s.data.toList) (fun pre x => pre ++ [x] <+: visL s.data.toList) := by
  intro l w0 M Mx Lm W hO hM hY
  refine callsIn_of_wp Try.func65 rfl trivial ?_ rfl
  simp only [Try.ntmps65, List.size_toArray, List.length_cons, List.length_nil, Nat.reduceAdd, Nat.reduceSub, Array.replicate_succ, Array.replicate_zero, List.push_toArray, List.append_toArray, List.nil_append, List.cons_append]
  gi_wp2
  gi_loopw [3] (fun _ wr => ∃ (pre rest : List (List UInt8 × Bool)) (s' : ByteArray) (Lm : List Thing), M pre Lm ∧ Own w0 (Lm ++ [cellT c #[.string s'] 9]) wr ∧ s'.size ≤ s.size ∧ rest = visL s'.data.toList ∧ visL s.data.toList = pre ++ rest)
    (fun _ wr => strAt wr c)
  case atStart => exact ⟨[], _, s, Lm, hM, hO, Nat.le_refl _, rfl, rfl⟩
  case round =>
    obtain ⟨pre, rest, s', Lm, hM', hO', hle, hrest, hv⟩ := hrel
    have hc := (hO'.cell1 Lm.length (get_end _ _)).1
    have hz := (hO'.cell1 Lm.length (get_end _ _)).2
    have hsl : s'.data.toList.length = s'.size := by rw [Array.length_toList]; rfl
    by_cases h0 : s'.size = 0
    · have hl : s'.data.toList = [] := List.eq_nil_of_length_eq_zero (by omega)
      have hfin : pre = visL s.data.toList := by rw [hv, hrest, hl]; simp [visL_nil]
      have Hfin := Lib.hid hfin
      have t1 : s'.toList = [] := by rw [toList_data, hl]
      have t2 : (!s'.toList.isEmpty) = false := by rw [t1]; rfl
      clear hfin hv hrest hsl hl
      gi_wp2
      go_end0
      exact ⟨⟨_, rfl⟩, .inl ⟨pre, Lm, _, Hfin.out, hM', hO'⟩⟩
    · by_cases h8 : s'.size < 8
      · have hr : rest = [([], false)] := by rw [hrest, visL_short _ (by omega) (by omega)]
        rw [hr] at hv
        obtain ⟨fn, tmps, assign, body, hy, hR⟩ := hY pre ([], false) wr Lm _ hM' hO' ⟨[], by rw [hv, List.append_nil]⟩
        dsimp only [encR] at hy
        have Hv := Lib.hid hv
        clear hv hrest hsl hr
        have t2 : (!s'.toList.isEmpty) = true := str_ne h0
        gi_wp2
        refine hR.mono ?_
        rintro e W' (⟨rfl, Lm', hM2, hO2⟩ | ⟨rfl, Lm', hM2, hO2⟩)
        · gi_wp2
          refine bodyPost_ret (results_none rfl _ _ _) rfl ?_
          exact ⟨⟨_, rfl⟩, .inl ⟨_, Lm', _, Hv.out.symm, hM2, hO2⟩⟩
        · gi_wp2
          refine bodyPost_ret (results_none rfl _ _ _) rfl ?_
          exact ⟨⟨_, rfl⟩, .inr ⟨_, Lm', _, ⟨[], by rw [Hv.out, List.append_nil]⟩, hM2, hO2⟩⟩
      · have t2 : (!s'.toList.isEmpty) = true := str_ne h0
        have h9 : 8 ≤ s'.size := by omega
        have e8 : (s'.extract 0 8).data.toList = s'.data.toList.take 8 := by rw [Lib.extract_data]; simp
        have hv1 := visL_bad s'.data.toList (by omega)
        have hv2 := visL_step s'.data.toList (by omega)
        rw [← e8] at hv1 hv2
        rw [hsl] at hv1 hv2
        obtain ⟨q, hq⟩ : ∃ q, q = numI (s'.extract 0 8).data.toList := ⟨_, rfl⟩
        have hq1 := numI_lo (s'.extract 0 8).data.toList
        have hq2 : numI (s'.extract 0 8).data.toList ≤ 9223372036854775807 := (numI_hi _).resolve_right (by rw [Lib.extract_data]; simp; omega)
        rw [← hq] at hv1 hv2 hq1 hq2
        have Hv := Lib.hid hv
        have Hr := Lib.hid hrest
        have Hv1 := Lib.hid hv1
        have Hv2 := Lib.hid hv2
        have Hq := Lib.hid hq
        clear hv hrest hv1 hv2 hq e8 hsl
        by_cases hbad : q < 0 ∨ q > (s'.size : Int) - 8
        · have hr : rest = [([], false)] := by rw [Hr.out, Hv1.out hbad]
          have hv := Hv.out
          rw [hr] at hv
          obtain ⟨fn, tmps, assign, body, hy, hR⟩ := hY pre ([], false) wr Lm _ hM' hO' ⟨[], by rw [hv, List.append_nil]⟩
          dsimp only [encR] at hy
          clear Hv
          have Hv := Lib.hid hv
          clear hv Hr hr
          by_cases hneg : q < 0
          · clear hbad
            gi_wp2_with fail
            refine ⟨trivial, (callsIn_wide.2 (number_any _ _ (by rw [ByteArray.size_extract]; omega))).mono ?_⟩
            rintro e w' ⟨rfl, rfl⟩
            rw [← Hq.out]
            gi_wp2
            refine hR.mono ?_
            rintro e W' (⟨rfl, Lm', hM2, hO2⟩ | ⟨rfl, Lm', hM2, hO2⟩)
            · gi_wp2
              refine bodyPost_ret (results_none rfl _ _ _) rfl ?_
              exact ⟨⟨_, rfl⟩, .inl ⟨_, Lm', _, Hv.out.symm, hM2, hO2⟩⟩
            · gi_wp2
              refine bodyPost_ret (results_none rfl _ _ _) rfl ?_
              exact ⟨⟨_, rfl⟩, .inr ⟨_, Lm', _, ⟨[], by rw [Hv.out, List.append_nil]⟩, hM2, hO2⟩⟩
          · have hbig : (s'.size : Int) - 8 < q := by omega
            clear hbad
            gi_wp2_with fail
            refine ⟨trivial, (callsIn_wide.2 (number_any _ _ (by rw [ByteArray.size_extract]; omega))).mono ?_⟩
            rintro e w' ⟨rfl, rfl⟩
            rw [← Hq.out]
            gi_wp2
            refine hR.mono ?_
            rintro e W' (⟨rfl, Lm', hM2, hO2⟩ | ⟨rfl, Lm', hM2, hO2⟩)
            · gi_wp2
              refine bodyPost_ret (results_none rfl _ _ _) rfl ?_
              exact ⟨⟨_, rfl⟩, .inl ⟨_, Lm', _, Hv.out.symm, hM2, hO2⟩⟩
            · gi_wp2
              refine bodyPost_ret (results_none rfl _ _ _) rfl ?_
              exact ⟨⟨_, rfl⟩, .inr ⟨_, Lm', _, ⟨[], by rw [Hv.out, List.append_nil]⟩, hM2, hO2⟩⟩
        · obtain ⟨m, rfl⟩ : ∃ m : Nat, q = m := ⟨q.toNat, by omega⟩
          have hm : m + 8 ≤ s'.size := by omega
          have hr : rest = ((s'.data.toList.drop 8).take m, true) :: visL (s'.data.toList.drop (8 + m)) := by rw [Hr.out, Hv2.out (by omega) (by omega), Int.toNat_natCast]
          have hv := Hv.out
          rw [hr] at hv
          obtain ⟨fn, tmps, assign, body, hy, hR⟩ := hY pre ((s'.data.toList.drop 8).take m, true) wr Lm _ hM' hO' ⟨_, by rw [hv, List.append_assoc]; rfl⟩
          dsimp only [encR] at hy
          have es : (⟨((s'.data.toList.drop 8).take m).toArray⟩ : ByteArray) = s'.extract 8 (8 + m) := by
            apply WideShapes.bytes_inj
            rw [Lib.extract_data]
            simp
          rw [es] at hy
          clear Hv
          have Hv := Lib.hid hv
          clear hv Hr hr hbad Hv1 Hv2 es
          gi_wp2_with fail
          refine ⟨trivial, (callsIn_wide.2 (number_any _ _ (by rw [ByteArray.size_extract]; omega))).mono ?_⟩
          rintro e w' ⟨rfl, rfl⟩
          rw [← Hq.out]
          gi_wp2
          refine hR.mono ?_
          rintro e W' (⟨rfl, Lm', hM2, hO2⟩ | ⟨rfl, Lm', hM2, hO2⟩)
          · have hc2 := (hO2.cell1 Lm'.length (get_end _ _)).1
            have hz2 := (hO2.cell1 Lm'.length (get_end _ _)).2
            gi_wp2
            go_roundw
            case rel =>
              refine ⟨pre ++ [((s'.data.toList.drop 8).take m, true)], _, s'.extract (8 + m) s'.size, Lm', hM2, ?_, ?_, rfl, ?_⟩
              · have h := hO2.store Lm'.length (get_end _ _) 0 (.string (s'.extract (8 + m) s'.size))
                rw [List.set_append_right (h := Nat.le_refl _), Nat.sub_self] at h
                exact h
              · rw [ByteArray.size_extract]; omega
              · rw [Hv.out, Lib.extract_to_end, List.append_assoc]; rfl
            case measure =>
              have e1 : strAt wr c = s'.size := by unfold strAt; rw [hc]
              have e2 : strAt (W'.setCell ⟨c, 0, none⟩ (.string (s'.extract (8 + m) s'.size))) c = (s'.extract (8 + m) s'.size).size := by
                unfold strAt
                rw [World.cell?_setCell_same' _ _ _ (by rw [hc2]; rfl)]
              rw [e1, e2, ByteArray.size_extract]
              omega
          · gi_wp2
            refine bodyPost_ret (results_none rfl _ _ _) rfl ?_
            exact ⟨⟨_, rfl⟩, .inr ⟨_, Lm', _, ⟨_, by rw [Hv.out, List.append_assoc]; rfl⟩, hM2, hO2⟩⟩
end Go.Proofs.Ytehdjajeonemoaa
