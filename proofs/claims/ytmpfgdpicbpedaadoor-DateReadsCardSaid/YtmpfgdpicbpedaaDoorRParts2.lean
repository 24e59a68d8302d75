/-
  Parts of the reference: the walk. Printed by wip/rparts.py. Conditions: the layout is within reach.
-/
import Derived.Test.YtmpfgdpicbpedaaDoorRParts
import Derived.Laws.Strings2
namespace Go.Proofs.YtmpfgdpicbpedaaDoor
open Go.RowKit Go.Shelf
attribute [local go_sem] Oper.semAt_some

theorem ext_list (s : ByteArray) (a b : Nat) : (s.extract a b).data.toList = (s.data.toList.drop a).take (b - a) := by
  rw [← toList_data]
  exact Lib.extract_toList s a b
theorem ext_cmp (s : ByteArray) (lit : List UInt8) (k n : Nat) (hn : lit.length = n) (_h : k + n ≤ s.size) : ((s.extract k (k + n)).toList == lit) = lit.isPrefixOf (s.data.toList.drop k) := by
  rw [toList_data, ext_list, show k + n - k = n by omega, Bool.eq_iff_iff, beq_iff_eq, List.isPrefixOf_iff_prefix]
  constructor
  · intro e
    rw [← e]
    exact List.take_prefix _ _
  · rintro ⟨t, e⟩
    rw [← e, ← hn, List.take_left]
theorem no_pre {p l : List UInt8} (h : l.length < p.length) : p.isPrefixOf l = false := by
  cases hp : p.isPrefixOf l
  · rfl
  · obtain ⟨t, rfl⟩ := List.isPrefixOf_iff_prefix.1 hp
    simp at h
    omega

theorem sl (s : ByteArray) (k n : Nat) (h : k + n ≤ s.size) (W : World) : (Instr.slice 9 (.string s) (some (.int .i64 (k : Int))) (some (.int .i64 ((k : Int) + (n : Int)))) none).run Tryd.prog W = .ok (.string (s.extract k (k + n))) W := by
  have := run_slice_string (P := Tryd.prog) W 9 s .i64 .i64 k ((k : Int) + n) Tryd.underlying9 (by omega) (by omega) (by omega)
  rw [this, Int.toNat_natCast, show ((k : Int) + n).toNat = k + n by omega]

theorem wpList_append_strs {w : World} {ops : Array Oper} {rest : List Oper} {o : Oper} {a : Act} {Q : Exit → Act → World → Prop} (hgd : o.guard = none) (s x : Operand)
    (ho : o.op = .call { callee := .builtin .append, args := #[s, x], argTypes := #[43, 43] }) (v vs : Value) (l m : List (List UInt8)) (hs : a.eval s = v) (hx : a.eval x = vs)
    (hown : Strs w v l) (hsrc : Strs w vs m) (hb : l.length + m.length ≤ 1000000)
    (h : ∀ v' w', Strs w' v' (l ++ m) → Frm (Blk v) w w' → (∀ k, Blk v' k → Blk v k ∨ w.heap.size ≤ k) → wpList Tryd.prog ops Q rest (a.put o.dst v') w') : wpList Tryd.prog ops Q (o :: rest) a w := by
  obtain ⟨v', w', hr, h1, h2, h3⟩ := run_append_strs (w := w) o.type v vs _ _ m hown hsrc (by omega) (by unfold maxLen; omega)
  refine wpList_plain hgd fun K hK => ?_
  unfold Oper.wp execOp
  simp only [ho, resolve, invoke, builtin, Sem.run_bind, Sem.run_pure, Result.andThen_ok, List.map_toArray, List.map_cons, List.map_nil, hs, hx, hr]
  refine hK _ _ (h v' w' ?_ h2 h3)
  unfold Strs
  rw [List.length_append, List.map_append]
  exact h1

set_option maxRecDepth 100000 in
set_option maxHeartbeats 2000000 in
theorem rparts_any (s : ByteArray) (hs : s.size ≤ 100000) (w : World) : Calls Tryd.prog 48 #[.string s] w fun e w' => ∃ v, e = .returned v ∧ Strs w' v (parts s.data.toList) ∧ Frm (fun _ => False) w w' ∧ ∀ k, Blk v k → w.heap.size ≤ k := by
  go_enter Tryd.func48, Tryd.ntmps48
  go_wp2_with fail
  go_loopw [3, 4] (fun so sk wr => ∃ (k : Nat) (pre : List (List UInt8)), sk = .int .i64 k ∧ k ≤ s.size ∧ pre.length ≤ k ∧ Strs wr so pre ∧ Hid (parts s.data.toList = pre ++ parts (s.data.toList.drop k)) ∧ Frm (fun _ => False) w wr ∧ ∀ b, Blk so b → w.heap.size ≤ b)
    (fun _ sk _ => s.size - (intOf sk).toNat)
  case atStart => exact ⟨0, [], rfl, Nat.zero_le _, Nat.le_refl _, World.ownsRow_nil _ _ _ _, by show _ = _; rfl, Frm.refl _ _, fun b hb => (Blk.nil hb).elim⟩
  case round =>
    obtain ⟨k, pre, rfl, hk, hpk, hst, hp, hf, hnew⟩ := hrel
    obtain ⟨ao, cap, rfl⟩ := hst.form
    by_cases hend : k = s.size
    · subst hend
      have hfin : parts s.data.toList = pre := by
        have := hp.out
        rw [List.drop_eq_nil_of_le (by rw [size_toList]; omega), parts_nil, List.append_nil] at this
        exact this
      have Hfin := Lib.hid hfin
      have Hst := Lib.hid hst
      clear hfin hst hp
      go_wp2_with fail
      go_ret
      exact ⟨_, rfl, by rw [Hfin.out]; exact Hst.out, hf, hnew⟩
    · have hlt : k < s.size := by omega
      have hne : s.data.toList.drop k ≠ [] := by
        intro e
        have := congrArg List.length e
        rw [List.length_drop, size_toList, List.length_nil] at this
        omega
      have hrl := refN_le hne
      rw [List.length_drop, size_toList] at hrl
      have hlen : (s.data.toList.drop k).length = s.size - k := by rw [List.length_drop, size_toList]
      have step : ∀ n : Nat, refN (s.data.toList.drop k) = n → parts s.data.toList = (pre ++ [(s.extract k (k + n)).data.toList]) ++ parts (s.data.toList.drop (k + n)) := by
        intro n hn
        rw [hp.out, parts_cons hne, fst_ref, hn, ext_list, show k + n - k = n by omega, List.append_assoc, List.length_take, List.drop_drop, show min n (s.data.toList.drop k).length = n by omega]
        rfl
      have Step := Lib.hid step
      have Hst := Lib.hid hst
      have Hpre := Lib.hid hpk
      have hk2 : k ≤ 100000 := by omega
      clear step hst hp hne hend
      have sl1 : ∀ W, (Instr.slice 9 (.string s) (some (.int .i64 (k : Int))) (some (.int .i64 ((k : Int) + 1))) none).run Tryd.prog W = .ok (.string (s.extract k (k + 1))) W := fun W => sl s k 1 (by omega) W
      by_cases h4 : k + 4 ≤ s.size
      · have sl4 : ∀ W, (Instr.slice 9 (.string s) (some (.int .i64 (k : Int))) (some (.int .i64 ((k : Int) + 4))) none).run Tryd.prog W = .ok (.string (s.extract k (k + 4))) W := fun W => sl s k 4 h4 W
        have sl2 : ∀ W, (Instr.slice 9 (.string s) (some (.int .i64 (k : Int))) (some (.int .i64 ((k : Int) + 2))) none).run Tryd.prog W = .ok (.string (s.extract k (k + 2))) W := fun W => sl s k 2 (by omega) W
        have c4 := ext_cmp s [89, 89, 89, 89] k 4 rfl h4
        have c2 := ext_cmp s [77, 77] k 2 rfl (by omega)
        have c3 := ext_cmp s [68, 68] k 2 rfl (by omega)
        cases hY : List.isPrefixOf (α := UInt8) [89, 89, 89, 89] (s.data.toList.drop k)
        · cases hM : List.isPrefixOf (α := UInt8) [77, 77] (s.data.toList.drop k)
          · cases hD : List.isPrefixOf (α := UInt8) [68, 68] (s.data.toList.drop k)
            · rw [hY] at c4; rw [hM] at c2; rw [hD] at c3
              have hN : refN (s.data.toList.drop k) = 1 := by
                unfold refN
                rw [show fY.isPrefixOf (s.data.toList.drop k) = false from hY, show fMM.isPrefixOf (s.data.toList.drop k) = false from hM, show fDD.isPrefixOf (s.data.toList.drop k) = false from hD]
                rfl
              have hs2 := Step.out 1 hN
              obtain ⟨x, hx⟩ : ∃ x, x = (s.extract k (k + 1)).data.toList := ⟨_, rfl⟩
              have hxs : Value.string (s.extract k (k + 1)) = strV x := by unfold strV; rw [hx]
              rw [← hx] at hs2
              have Hs2 := Lib.hid hs2
              have Hxs := Lib.hid hxs
              have hle : k + 1 ≤ s.size := by omega
              clear Step hN hs2 hlen hrl hx hxs hY hM hD
              have hown : Strs (wr.alloc (.cells #[.string (s.extract k (k + 1))] 9)) (.slice ao pre.length cap) pre := Hst.out.frm (F := fun _ => False) ((Frm.refl _ _).alloc _) (fun _ _ h => h)
              have hsrc : Strs (wr.alloc (.cells #[.string (s.extract k (k + 1))] 9)) (.slice (some ⟨wr.heap.size, 0, none⟩) 1 1) [x] := by
                rw [Hxs.out]
                exact ⟨rfl, .inr ⟨wr.heap.size, 1, _, rfl, Nat.zero_le _, heap_alloc_new wr _, Nat.le_refl _, by unfold maxLen; omega, rfl, rfl⟩⟩
              have Hown := Lib.hid hown
              have Hsrc := Lib.hid hsrc
              clear hown hsrc
              go_wp2_with (at_builtin; refine wpList_append_strs rfl _ _ rfl _ _ pre _ rfl rfl Hown.out Hsrc.out (by have := Hpre.out; show _ + 1 ≤ _; omega) ?_)
              intro v' w2 hv2 hf2 hb2
              obtain ⟨ao2, cap2, rfl⟩ := hv2.form
              have Hv2 := Lib.hid hv2
              clear hv2
              go_wp2_with fail
              go_roundw
              case rel =>
                refine ⟨k + 1, pre ++ [x], by go_num, hle, by have := Hpre.out; rw [List.length_append]; show _ + 1 ≤ _; omega, Hv2.out, Hs2.out, ?_, ?_⟩
                · exact (hf.alloc _).trans' hf2 fun b hb => .inr (hnew b hb)
                · intro b hb
                  rcases hb2 b hb with h | h
                  · exact hnew b h
                  · have := hf.size
                    try rw [World.size_alloc] at h
                    omega
              case measure => simp [intOf]; omega
            · rw [hY] at c4; rw [hM] at c2; rw [hD] at c3
              have hN : refN (s.data.toList.drop k) = 2 := by
                unfold refN
                rw [show fY.isPrefixOf (s.data.toList.drop k) = false from hY, show fMM.isPrefixOf (s.data.toList.drop k) = false from hM, show fDD.isPrefixOf (s.data.toList.drop k) = true from hD]
                rfl
              have hs2 := Step.out 2 hN
              obtain ⟨x, hx⟩ : ∃ x, x = (s.extract k (k + 2)).data.toList := ⟨_, rfl⟩
              have hxs : Value.string (s.extract k (k + 2)) = strV x := by unfold strV; rw [hx]
              rw [← hx] at hs2
              have Hs2 := Lib.hid hs2
              have Hxs := Lib.hid hxs
              have hle : k + 2 ≤ s.size := by omega
              clear Step hN hs2 hlen hrl hx hxs hY hM hD
              have hown : Strs (wr.alloc (.cells #[.string (s.extract k (k + 2))] 9)) (.slice ao pre.length cap) pre := Hst.out.frm (F := fun _ => False) ((Frm.refl _ _).alloc _) (fun _ _ h => h)
              have hsrc : Strs (wr.alloc (.cells #[.string (s.extract k (k + 2))] 9)) (.slice (some ⟨wr.heap.size, 0, none⟩) 1 1) [x] := by
                rw [Hxs.out]
                exact ⟨rfl, .inr ⟨wr.heap.size, 1, _, rfl, Nat.zero_le _, heap_alloc_new wr _, Nat.le_refl _, by unfold maxLen; omega, rfl, rfl⟩⟩
              have Hown := Lib.hid hown
              have Hsrc := Lib.hid hsrc
              clear hown hsrc
              go_wp2_with (at_builtin; refine wpList_append_strs rfl _ _ rfl _ _ pre _ rfl rfl Hown.out Hsrc.out (by have := Hpre.out; show _ + 1 ≤ _; omega) ?_)
              intro v' w2 hv2 hf2 hb2
              obtain ⟨ao2, cap2, rfl⟩ := hv2.form
              have Hv2 := Lib.hid hv2
              clear hv2
              go_wp2_with fail
              go_roundw
              case rel =>
                refine ⟨k + 2, pre ++ [x], by go_num, hle, by have := Hpre.out; rw [List.length_append]; show _ + 1 ≤ _; omega, Hv2.out, Hs2.out, ?_, ?_⟩
                · exact (hf.alloc _).trans' hf2 fun b hb => .inr (hnew b hb)
                · intro b hb
                  rcases hb2 b hb with h | h
                  · exact hnew b h
                  · have := hf.size
                    try rw [World.size_alloc] at h
                    omega
              case measure => simp [intOf]; omega
          · rw [hY] at c4; rw [hM] at c2; clear c3
            have hN : refN (s.data.toList.drop k) = 2 := by
              unfold refN
              rw [show fY.isPrefixOf (s.data.toList.drop k) = false from hY, show fMM.isPrefixOf (s.data.toList.drop k) = true from hM]
              rfl
            have hs2 := Step.out 2 hN
            obtain ⟨x, hx⟩ : ∃ x, x = (s.extract k (k + 2)).data.toList := ⟨_, rfl⟩
            have hxs : Value.string (s.extract k (k + 2)) = strV x := by unfold strV; rw [hx]
            rw [← hx] at hs2
            have Hs2 := Lib.hid hs2
            have Hxs := Lib.hid hxs
            have hle : k + 2 ≤ s.size := by omega
            clear Step hN hs2 hlen hrl hx hxs hY hM
            have hown : Strs (wr.alloc (.cells #[.string (s.extract k (k + 2))] 9)) (.slice ao pre.length cap) pre := Hst.out.frm (F := fun _ => False) ((Frm.refl _ _).alloc _) (fun _ _ h => h)
            have hsrc : Strs (wr.alloc (.cells #[.string (s.extract k (k + 2))] 9)) (.slice (some ⟨wr.heap.size, 0, none⟩) 1 1) [x] := by
              rw [Hxs.out]
              exact ⟨rfl, .inr ⟨wr.heap.size, 1, _, rfl, Nat.zero_le _, heap_alloc_new wr _, Nat.le_refl _, by unfold maxLen; omega, rfl, rfl⟩⟩
            have Hown := Lib.hid hown
            have Hsrc := Lib.hid hsrc
            clear hown hsrc
            go_wp2_with (at_builtin; refine wpList_append_strs rfl _ _ rfl _ _ pre _ rfl rfl Hown.out Hsrc.out (by have := Hpre.out; show _ + 1 ≤ _; omega) ?_)
            intro v' w2 hv2 hf2 hb2
            obtain ⟨ao2, cap2, rfl⟩ := hv2.form
            have Hv2 := Lib.hid hv2
            clear hv2
            go_wp2_with fail
            go_roundw
            case rel =>
              refine ⟨k + 2, pre ++ [x], by go_num, hle, by have := Hpre.out; rw [List.length_append]; show _ + 1 ≤ _; omega, Hv2.out, Hs2.out, ?_, ?_⟩
              · exact (hf.alloc _).trans' hf2 fun b hb => .inr (hnew b hb)
              · intro b hb
                rcases hb2 b hb with h | h
                · exact hnew b h
                · have := hf.size
                  try rw [World.size_alloc] at h
                  omega
            case measure => simp [intOf]; omega
        · rw [hY] at c4; clear c2 c3
          have hN : refN (s.data.toList.drop k) = 4 := by
            unfold refN
            rw [show fY.isPrefixOf (s.data.toList.drop k) = true from hY]
            rfl
          have hs2 := Step.out 4 hN
          obtain ⟨x, hx⟩ : ∃ x, x = (s.extract k (k + 4)).data.toList := ⟨_, rfl⟩
          have hxs : Value.string (s.extract k (k + 4)) = strV x := by unfold strV; rw [hx]
          rw [← hx] at hs2
          have Hs2 := Lib.hid hs2
          have Hxs := Lib.hid hxs
          have hle : k + 4 ≤ s.size := by omega
          clear Step hN hs2 hlen hrl hx hxs hY
          have hown : Strs (wr.alloc (.cells #[.string (s.extract k (k + 4))] 9)) (.slice ao pre.length cap) pre := Hst.out.frm (F := fun _ => False) ((Frm.refl _ _).alloc _) (fun _ _ h => h)
          have hsrc : Strs (wr.alloc (.cells #[.string (s.extract k (k + 4))] 9)) (.slice (some ⟨wr.heap.size, 0, none⟩) 1 1) [x] := by
            rw [Hxs.out]
            exact ⟨rfl, .inr ⟨wr.heap.size, 1, _, rfl, Nat.zero_le _, heap_alloc_new wr _, Nat.le_refl _, by unfold maxLen; omega, rfl, rfl⟩⟩
          have Hown := Lib.hid hown
          have Hsrc := Lib.hid hsrc
          clear hown hsrc
          go_wp2_with (at_builtin; refine wpList_append_strs rfl _ _ rfl _ _ pre _ rfl rfl Hown.out Hsrc.out (by have := Hpre.out; show _ + 1 ≤ _; omega) ?_)
          intro v' w2 hv2 hf2 hb2
          obtain ⟨ao2, cap2, rfl⟩ := hv2.form
          have Hv2 := Lib.hid hv2
          clear hv2
          go_wp2_with fail
          go_roundw
          case rel =>
            refine ⟨k + 4, pre ++ [x], by go_num, hle, by have := Hpre.out; rw [List.length_append]; show _ + 1 ≤ _; omega, Hv2.out, Hs2.out, ?_, ?_⟩
            · exact (hf.alloc _).trans' hf2 fun b hb => .inr (hnew b hb)
            · intro b hb
              rcases hb2 b hb with h | h
              · exact hnew b h
              · have := hf.size
                try rw [World.size_alloc] at h
                omega
          case measure => simp [intOf]; omega
      · have hY : fY.isPrefixOf (s.data.toList.drop k) = false := no_pre (by rw [hlen]; show _ < 4; omega)
        by_cases h2 : k + 2 ≤ s.size
        · have sl2 : ∀ W, (Instr.slice 9 (.string s) (some (.int .i64 (k : Int))) (some (.int .i64 ((k : Int) + 2))) none).run Tryd.prog W = .ok (.string (s.extract k (k + 2))) W := fun W => sl s k 2 h2 W
          have c2 := ext_cmp s [77, 77] k 2 rfl h2
          have c3 := ext_cmp s [68, 68] k 2 rfl h2
          cases hM : List.isPrefixOf (α := UInt8) [77, 77] (s.data.toList.drop k)
          · cases hD : List.isPrefixOf (α := UInt8) [68, 68] (s.data.toList.drop k)
            · rw [hM] at c2; rw [hD] at c3
              have hN : refN (s.data.toList.drop k) = 1 := by
                unfold refN
                rw [show fY.isPrefixOf (s.data.toList.drop k) = false from hY, show fMM.isPrefixOf (s.data.toList.drop k) = false from hM, show fDD.isPrefixOf (s.data.toList.drop k) = false from hD]
                rfl
              have hs2 := Step.out 1 hN
              obtain ⟨x, hx⟩ : ∃ x, x = (s.extract k (k + 1)).data.toList := ⟨_, rfl⟩
              have hxs : Value.string (s.extract k (k + 1)) = strV x := by unfold strV; rw [hx]
              rw [← hx] at hs2
              have Hs2 := Lib.hid hs2
              have Hxs := Lib.hid hxs
              have hle : k + 1 ≤ s.size := by omega
              clear Step hN hs2 hlen hrl hx hxs hY hM hD
              have hown : Strs (wr.alloc (.cells #[.string (s.extract k (k + 1))] 9)) (.slice ao pre.length cap) pre := Hst.out.frm (F := fun _ => False) ((Frm.refl _ _).alloc _) (fun _ _ h => h)
              have hsrc : Strs (wr.alloc (.cells #[.string (s.extract k (k + 1))] 9)) (.slice (some ⟨wr.heap.size, 0, none⟩) 1 1) [x] := by
                rw [Hxs.out]
                exact ⟨rfl, .inr ⟨wr.heap.size, 1, _, rfl, Nat.zero_le _, heap_alloc_new wr _, Nat.le_refl _, by unfold maxLen; omega, rfl, rfl⟩⟩
              have Hown := Lib.hid hown
              have Hsrc := Lib.hid hsrc
              clear hown hsrc
              go_wp2_with (at_builtin; refine wpList_append_strs rfl _ _ rfl _ _ pre _ rfl rfl Hown.out Hsrc.out (by have := Hpre.out; show _ + 1 ≤ _; omega) ?_)
              intro v' w2 hv2 hf2 hb2
              obtain ⟨ao2, cap2, rfl⟩ := hv2.form
              have Hv2 := Lib.hid hv2
              clear hv2
              go_wp2_with fail
              go_roundw
              case rel =>
                refine ⟨k + 1, pre ++ [x], by go_num, hle, by have := Hpre.out; rw [List.length_append]; show _ + 1 ≤ _; omega, Hv2.out, Hs2.out, ?_, ?_⟩
                · exact (hf.alloc _).trans' hf2 fun b hb => .inr (hnew b hb)
                · intro b hb
                  rcases hb2 b hb with h | h
                  · exact hnew b h
                  · have := hf.size
                    try rw [World.size_alloc] at h
                    omega
              case measure => simp [intOf]; omega
            · rw [hM] at c2; rw [hD] at c3
              have hN : refN (s.data.toList.drop k) = 2 := by
                unfold refN
                rw [show fY.isPrefixOf (s.data.toList.drop k) = false from hY, show fMM.isPrefixOf (s.data.toList.drop k) = false from hM, show fDD.isPrefixOf (s.data.toList.drop k) = true from hD]
                rfl
              have hs2 := Step.out 2 hN
              obtain ⟨x, hx⟩ : ∃ x, x = (s.extract k (k + 2)).data.toList := ⟨_, rfl⟩
              have hxs : Value.string (s.extract k (k + 2)) = strV x := by unfold strV; rw [hx]
              rw [← hx] at hs2
              have Hs2 := Lib.hid hs2
              have Hxs := Lib.hid hxs
              have hle : k + 2 ≤ s.size := by omega
              clear Step hN hs2 hlen hrl hx hxs hY hM hD
              have hown : Strs (wr.alloc (.cells #[.string (s.extract k (k + 2))] 9)) (.slice ao pre.length cap) pre := Hst.out.frm (F := fun _ => False) ((Frm.refl _ _).alloc _) (fun _ _ h => h)
              have hsrc : Strs (wr.alloc (.cells #[.string (s.extract k (k + 2))] 9)) (.slice (some ⟨wr.heap.size, 0, none⟩) 1 1) [x] := by
                rw [Hxs.out]
                exact ⟨rfl, .inr ⟨wr.heap.size, 1, _, rfl, Nat.zero_le _, heap_alloc_new wr _, Nat.le_refl _, by unfold maxLen; omega, rfl, rfl⟩⟩
              have Hown := Lib.hid hown
              have Hsrc := Lib.hid hsrc
              clear hown hsrc
              go_wp2_with (at_builtin; refine wpList_append_strs rfl _ _ rfl _ _ pre _ rfl rfl Hown.out Hsrc.out (by have := Hpre.out; show _ + 1 ≤ _; omega) ?_)
              intro v' w2 hv2 hf2 hb2
              obtain ⟨ao2, cap2, rfl⟩ := hv2.form
              have Hv2 := Lib.hid hv2
              clear hv2
              go_wp2_with fail
              go_roundw
              case rel =>
                refine ⟨k + 2, pre ++ [x], by go_num, hle, by have := Hpre.out; rw [List.length_append]; show _ + 1 ≤ _; omega, Hv2.out, Hs2.out, ?_, ?_⟩
                · exact (hf.alloc _).trans' hf2 fun b hb => .inr (hnew b hb)
                · intro b hb
                  rcases hb2 b hb with h | h
                  · exact hnew b h
                  · have := hf.size
                    try rw [World.size_alloc] at h
                    omega
              case measure => simp [intOf]; omega
          · rw [hM] at c2; clear c3
            have hN : refN (s.data.toList.drop k) = 2 := by
              unfold refN
              rw [show fY.isPrefixOf (s.data.toList.drop k) = false from hY, show fMM.isPrefixOf (s.data.toList.drop k) = true from hM]
              rfl
            have hs2 := Step.out 2 hN
            obtain ⟨x, hx⟩ : ∃ x, x = (s.extract k (k + 2)).data.toList := ⟨_, rfl⟩
            have hxs : Value.string (s.extract k (k + 2)) = strV x := by unfold strV; rw [hx]
            rw [← hx] at hs2
            have Hs2 := Lib.hid hs2
            have Hxs := Lib.hid hxs
            have hle : k + 2 ≤ s.size := by omega
            clear Step hN hs2 hlen hrl hx hxs hY hM
            have hown : Strs (wr.alloc (.cells #[.string (s.extract k (k + 2))] 9)) (.slice ao pre.length cap) pre := Hst.out.frm (F := fun _ => False) ((Frm.refl _ _).alloc _) (fun _ _ h => h)
            have hsrc : Strs (wr.alloc (.cells #[.string (s.extract k (k + 2))] 9)) (.slice (some ⟨wr.heap.size, 0, none⟩) 1 1) [x] := by
              rw [Hxs.out]
              exact ⟨rfl, .inr ⟨wr.heap.size, 1, _, rfl, Nat.zero_le _, heap_alloc_new wr _, Nat.le_refl _, by unfold maxLen; omega, rfl, rfl⟩⟩
            have Hown := Lib.hid hown
            have Hsrc := Lib.hid hsrc
            clear hown hsrc
            go_wp2_with (at_builtin; refine wpList_append_strs rfl _ _ rfl _ _ pre _ rfl rfl Hown.out Hsrc.out (by have := Hpre.out; show _ + 1 ≤ _; omega) ?_)
            intro v' w2 hv2 hf2 hb2
            obtain ⟨ao2, cap2, rfl⟩ := hv2.form
            have Hv2 := Lib.hid hv2
            clear hv2
            go_wp2_with fail
            go_roundw
            case rel =>
              refine ⟨k + 2, pre ++ [x], by go_num, hle, by have := Hpre.out; rw [List.length_append]; show _ + 1 ≤ _; omega, Hv2.out, Hs2.out, ?_, ?_⟩
              · exact (hf.alloc _).trans' hf2 fun b hb => .inr (hnew b hb)
              · intro b hb
                rcases hb2 b hb with h | h
                · exact hnew b h
                · have := hf.size
                  try rw [World.size_alloc] at h
                  omega
            case measure => simp [intOf]; omega
        · have hM : fMM.isPrefixOf (s.data.toList.drop k) = false := no_pre (by rw [hlen]; show _ < 2; omega)
          have hD : fDD.isPrefixOf (s.data.toList.drop k) = false := no_pre (by rw [hlen]; show _ < 2; omega)
          have hN : refN (s.data.toList.drop k) = 1 := by
            unfold refN
            rw [show fY.isPrefixOf (s.data.toList.drop k) = false from hY, show fMM.isPrefixOf (s.data.toList.drop k) = false from hM, show fDD.isPrefixOf (s.data.toList.drop k) = false from hD]
            rfl
          have hs2 := Step.out 1 hN
          obtain ⟨x, hx⟩ : ∃ x, x = (s.extract k (k + 1)).data.toList := ⟨_, rfl⟩
          have hxs : Value.string (s.extract k (k + 1)) = strV x := by unfold strV; rw [hx]
          rw [← hx] at hs2
          have Hs2 := Lib.hid hs2
          have Hxs := Lib.hid hxs
          have hle : k + 1 ≤ s.size := by omega
          clear Step hN hs2 hlen hrl hx hxs hY hM hD
          have hown : Strs (wr.alloc (.cells #[.string (s.extract k (k + 1))] 9)) (.slice ao pre.length cap) pre := Hst.out.frm (F := fun _ => False) ((Frm.refl _ _).alloc _) (fun _ _ h => h)
          have hsrc : Strs (wr.alloc (.cells #[.string (s.extract k (k + 1))] 9)) (.slice (some ⟨wr.heap.size, 0, none⟩) 1 1) [x] := by
            rw [Hxs.out]
            exact ⟨rfl, .inr ⟨wr.heap.size, 1, _, rfl, Nat.zero_le _, heap_alloc_new wr _, Nat.le_refl _, by unfold maxLen; omega, rfl, rfl⟩⟩
          have Hown := Lib.hid hown
          have Hsrc := Lib.hid hsrc
          clear hown hsrc
          go_wp2_with (at_builtin; refine wpList_append_strs rfl _ _ rfl _ _ pre _ rfl rfl Hown.out Hsrc.out (by have := Hpre.out; show _ + 1 ≤ _; omega) ?_)
          intro v' w2 hv2 hf2 hb2
          obtain ⟨ao2, cap2, rfl⟩ := hv2.form
          have Hv2 := Lib.hid hv2
          clear hv2
          go_wp2_with fail
          go_roundw
          case rel =>
            refine ⟨k + 1, pre ++ [x], by go_num, hle, by have := Hpre.out; rw [List.length_append]; show _ + 1 ≤ _; omega, Hv2.out, Hs2.out, ?_, ?_⟩
            · exact (hf.alloc _).trans' hf2 fun b hb => .inr (hnew b hb)
            · intro b hb
              rcases hb2 b hb with h | h
              · exact hnew b h
              · have := hf.size
                try rw [World.size_alloc] at h
                omega
          case measure => simp [intOf]; omega
end Go.Proofs.YtmpfgdpicbpedaaDoor

