/-
  The reference's Put: a string written at an offset of another. Conditions: the offset and the lengths lie within 2^24.
-/
import Derived.Test.YtehdjajeonemoaaRef
namespace Go.Proofs.Ytehdjajeonemoaa
open Go.RowKit

theorem size_toList (r : ByteArray) : r.data.toList.length = r.size := by rw [Array.length_toList]; rfl
theorem app_toList (a b : ByteArray) : (a ++ b).data.toList = a.data.toList ++ b.data.toList := by simp

theorem madeBytes (n : Nat) : (madeCells (Value.int .u8 0).cells (n * 1)).toList = (List.replicate n (0 : UInt8)).map bv := by
  have : (Value.int IntKind.u8 0).cells = #[Value.int .u8 0] := rfl
  rw [this, Nat.mul_one, toList_madeCells_one]
  simp [bv]

set_option maxRecDepth 100000 in
set_option maxHeartbeats 1000000 in
theorem rput_any (c : ByteArray) (off : Int) (s : ByteArray) (w : World) (h0 : 0 ≤ off) (h1 : off + s.size ≤ 16777216) (h2 : c.size ≤ 16777216) :
    Calls Try.prog 53 #[.string c, .int .i64 off, .string s] w fun e w' => e = .returned (strV (putL c.data.toList off.toNat s.data.toList)) ∧ Frm (fun _ => False) w w' := by
  obtain ⟨i0, hi, hz0, hz1, hz2⟩ := info_parts Try.info5
  have hcl := size_toList c
  have hsl := size_toList s
  go_enter Try.func53, Try.ntmps53
  go_wp2_with fail
  have Hcl := Lib.hid hcl
  have Hsl := Lib.hid hsl
  clear hcl hsl
  go_loopw [0] (fun sc wr => ∃ cc : ByteArray, sc = .string cc ∧ (cc = c ∨ ((c.size : Int) < off ∧ off ≤ cc.size ∧ cc.size ≤ 16777216 ∧ cc.data.toList = c.data.toList ++ List.replicate (off.toNat - c.data.toList.length) 0)) ∧ Frm (fun _ => False) w wr) (fun sc _ => off.toNat - strSize sc)
  case atStart => exact ⟨c, rfl, .inl rfl, Frm.refl _ _⟩
  case round =>
    obtain ⟨cc, rfl, hcc, hF⟩ := hrel
    by_cases hlt : (cc.size : Int) < off
    · have hcc' : cc = c := by
        rcases hcc with h | h
        · exact h
        · omega
      subst hcc'
      clear hcc
      obtain ⟨z, hz⟩ : ∃ z : ByteArray, z = ⟨(List.replicate (off.toNat - cc.size) (0 : UInt8)).toArray⟩ := ⟨_, rfl⟩
      have hzl : z.data.toList = List.replicate (off.toNat - cc.size) 0 := by rw [hz]
      have hzs : z.size = off.toNat - cc.size := by rw [← size_toList, hzl, List.length_replicate]
      have hcv : ∀ (w1 : World) (v : Value), Bts w1 5 v (List.replicate (off.toNat - cc.size) 0) → (convert 56 9 v).run Try.prog w1 = .ok (.string z) w1 := by
        intro w1 v hv
        rw [hv.conv, hz]
        rfl
      have hzb : z.size ≤ 16777216 := by omega
      have Hcv := Lib.hid hcv
      have Hzl := Lib.hid hzl
      have Hzs := Lib.hid hzs
      clear hz hcv hzl hzs
      go_wp2_with (at_make; refine wpList_make_full _ rfl _ _ 56 rfl 0 5 i0 (.int .u8 0) 1 Try.underlying56 hi hz0 hz1 .i64 .i64 _ _ (off.toNat - cc.size) rfl rfl (by omega) (by omega) (by rw [hz2]; omega) (by unfold maxLen; omega) (Nat.zero_le _) ?_; intro w1 hown hgrow; have hb : Bts w1 5 (.slice (some ⟨wr.heap.size, 0, none⟩) (off.toNat - cc.size) (off.toNat - cc.size)) (List.replicate (off.toNat - cc.size) 0) := (by unfold Bts; rw [List.length_replicate, ← madeBytes]; exact hown); have hconv := Hcv.out w1 _ hb; clear hown hb)
      go_roundw
      case rel =>
        refine ⟨_, rfl, .inr ⟨hlt, ?_, ?_, ?_⟩, hF.trans' (Frm.of_grown (F := fun _ => False) hgrow (by simp)) (fun _ h => h.elim)⟩
        · rw [ByteArray.size_append, Hzs.out]; omega
        · rw [ByteArray.size_append, Hzs.out]; omega
        · rw [app_toList, Hzl.out, Hcl.out]
      case measure => simp only [strSize, ByteArray.size_append, Hzs.out]; omega
    · have hge : off ≤ (cc.size : Int) := by omega
      have hcb : cc.size ≤ 16777216 := by
        rcases hcc with rfl | h
        · exact h2
        · exact h.2.2.1
      have hpl : putL c.data.toList off.toNat s.data.toList = cc.data.toList.take off.toNat ++ s.data.toList ++ cc.data.toList.drop (off.toNat + s.size) := by
        have hce : cc.data.toList = c.data.toList ++ List.replicate (off.toNat - c.data.toList.length) 0 := by
          rcases hcc with rfl | h
          · rw [Hcl.out, show off.toNat - cc.size = 0 by omega]; simp
          · exact h.2.2.2
        unfold putL
        rw [hce, Hsl.out]
        congr 1
        rw [List.drop_append]
        have : List.drop (off.toNat + s.size - c.data.toList.length) (List.replicate (off.toNat - c.data.toList.length) (0 : UInt8)) = [] := List.drop_eq_nil_of_le (by rw [List.length_replicate]; omega)
        rw [this, List.append_nil]
      have Hpl := Lib.hid hpl
      have hcc2 := size_toList cc
      have Hcc2 := Lib.hid hcc2
      clear hpl hcc hcc2
      by_cases hend : (cc.size : Int) ≤ off + s.size
      · go_wp2_with fail
        go_ret
        refine ⟨congrArg Ending.returned ((strV_of _).trans (strV_inj ?_)), hF⟩
        have hd : List.drop (off.toNat + s.size) cc.data.toList = [] := List.drop_eq_nil_of_le (by rw [Hcc2.out]; omega)
        rw [Hpl.out, app_toList, Lib.extract_data, hd]
        simp
      · have w1 : IntKind.i64.wrap (off + s.size) = off + s.size := IntWalk.i64_in _ (by omega)
        go_wp2_with fail
        go_quiet (fail)
        go_wp2
        go_ret
        refine ⟨congrArg Ending.returned ((strV_of _).trans (strV_inj ?_)), hF.drewN _⟩
        rw [Hpl.out, app_toList, app_toList, Lib.extract_data, Lib.extract_data]
        have e1 : (off + s.size).toNat = off.toNat + s.size := by omega
        have e2 : List.take (cc.size - (off.toNat + s.size)) (List.drop (off.toNat + s.size) cc.data.toList) = List.drop (off.toNat + s.size) cc.data.toList := List.take_of_length_le (by rw [List.length_drop, Hcc2.out]; exact Nat.le_refl _)
        rw [e1, e2]
        simp
end Go.Proofs.Ytehdjajeonemoaa
