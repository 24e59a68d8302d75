/-
  disk.put writes a string at an offset. Conditions: the offset and the lengths lie within 2^24.
-/
import Derived.Test.YtehdjajeonemoaaProg
import Derived.Test.YtehdjajeonemoaaModel
import Derived.Test.YtehdjajeonemoaaKit
import Derived.Outline
namespace Go.Proofs.Ytehdjajeonemoaa
open Go.RowKit

theorem Try.info5 : (Try.prog.info? 5).map (fun i => (i.zero, i.size, i.bytes)) = some (some (.int .u8 0), 1, 1) := by kernel_rfl

theorem putL_grow (c : List UInt8) (off : Nat) (s : List UInt8) (n : Nat) (hn : s.length = n) (h : c.length < off + n) :
    putL c off s = (c ++ List.replicate (off + n - c.length) 0).take off ++ s ++ (c ++ List.replicate (off + n - c.length) 0).drop (off + n) := by
  subst hn
  unfold putL
  rw [List.drop_eq_nil_of_le (by omega : c.length ≤ off + s.length), List.drop_eq_nil_of_le (by simp; omega : (c ++ List.replicate (off + s.length - c.length) (0 : UInt8)).length ≤ off + s.length)]
  congr 2
  rw [List.take_append, List.take_append]
  congr 1
  rw [List.take_replicate, List.take_replicate]
  congr 1
  omega

theorem putL_room (c : List UInt8) (off : Nat) (s : List UInt8) (h : off + s.length ≤ c.length) : putL c off s = c.take off ++ s ++ c.drop (off + s.length) := by
  unfold putL
  rw [List.take_append_of_le_length (by omega)]

set_option maxRecDepth 100000 in
set_option maxHeartbeats 400000 in
theorem put_grow (ao : Option Addr) (cap : Nat) (c : List UInt8) (off : Int) (s : ByteArray) (w : World) (h0 : 0 ≤ off) (h1 : off + s.size ≤ 16777216) (h2 : c.length ≤ 16777216)
    (h : Bts w 5 (.slice ao c.length cap) c) (hlt : (c.length : Int) < off + s.size) :
    Calls Try.prog 52 #[.slice ao c.length cap, .int .i64 off, .string s] w fun e w' => ∃ v', e = .returned v' ∧ Bts w' 5 v' (putL c off.toNat s.data.toList) ∧ Frm (Blk (.slice ao c.length cap)) w w' ∧ (∀ k, Blk v' k → Blk (.slice ao c.length cap) k ∨ w.heap.size ≤ k) := by
  obtain ⟨i0, hi, hz0, hz1, hz2⟩ := info_parts Try.info5
  have hd : (0 : Int) < off + s.size - c.length := by omega
  go_enter Try.func52, Try.ntmps52
  go_wp2_with (at_builtin; refine wpList_append_zeros rfl (.tmp 17) (.tmp 18) 56 3 rfl 5 i0 (.int .u8 0) .i64 .i64 Try.underlying56 Try.underlying3 hi hz0 hz1 hz2 rfl rfl _ c.length _ _ rfl rfl h (off.toNat + s.size - c.length) ?ca ?cb ?cc ?_)
  case ca => omega
  case cb => omega
  case cc => omega
  intro g cap' w1 hown hf hg
  have hsz5 : (Try.prog.info? 5).map (·.size) = some 1 := by simp [hi, hz1]
  have hsl : s.data.toList.length = s.size := by rw [Array.length_toList]; rfl
  have hb : Bts w1 5 (.slice (some ⟨g, 0, none⟩) (c.length + (off.toNat + s.size - c.length)) cap') (c ++ List.replicate (off.toNat + s.size - c.length) 0) := by
    unfold Bts
    have e1 : (c ++ List.replicate (off.toNat + s.size - c.length) 0).length = c.length + (off.toNat + s.size - c.length) := by simp
    have e2 : (c ++ List.replicate (off.toNat + s.size - c.length) 0).map bv = c.map bv ++ List.replicate (off.toNat + s.size - c.length) (.int .u8 0) := by simp [bv]
    rw [e1, e2]
    exact hown
  clear hown
  have hcl : (c ++ List.replicate (off.toNat + s.size - c.length) 0).length = off.toNat + s.size := by simp; omega
  have Hcl := Lib.hid hcl
  have Hsl := Lib.hid hsl
  clear hcl hsl
  have hcl2 : off ≤ ((c ++ List.replicate (off.toNat + s.size - c.length) (0 : UInt8)).length : Int) := by rw [Hcl.out]; omega
  go_wp2_with (first | ((with_reducible show wpList _ _ _ (⟨some 22, _, _, _, _, _⟩ :: _) _ _); refine wpList_slice_from rfl (.tmp 20) (.tmp 21) 56 rfl 5 Try.underlying56 hsz5 _ _ rfl hb .i64 off rfl h0 hcl2 ?_; intro dp dCap hdp; have Hdp := Lib.hid hdp; clear hdp) | ((with_reducible show wpList _ _ _ (⟨some 24, _, _, _, _, _⟩ :: _) _ _); refine wpList_copy_string rfl (.tmp 22) (.tmp 23) 56 9 rfl 5 Try.underlying56 hsz5 _ _ _ s rfl rfl _ _ hb off.toNat (Nat.le_of_eq Hcl.out.symm) (by first | omega | (rw [Hcl.out]; omega)) (fun hp => Hdp.out (by rw [Hcl.out]; omega)) ?_; intro w2 hb2 hf2; clear Hdp))
  all_goals
    go_ret
    refine ⟨_, rfl, ?_, hf.trans' hf2 ?_, ?_⟩
    · have e : putL c off.toNat s.data.toList = (c ++ List.replicate (off.toNat + s.size - c.length) 0).take off.toNat ++ s.data.toList ++ (c ++ List.replicate (off.toNat + s.size - c.length) 0).drop (off.toNat + s.size) := putL_grow c off.toNat s.data.toList s.size Hsl.out (by omega)
      rw [e]
      exact hb2
    · intro k hk; obtain rfl := Blk.some.1 hk; exact hg
    · intro k hk; obtain rfl := Blk.some.1 hk; exact hg

set_option maxRecDepth 100000 in
set_option maxHeartbeats 400000 in
theorem put_room (ao : Option Addr) (cap : Nat) (c : List UInt8) (off : Int) (s : ByteArray) (w : World) (h0 : 0 ≤ off) (h1 : off + s.size ≤ 16777216) (h2 : c.length ≤ 16777216)
    (h : Bts w 5 (.slice ao c.length cap) c) (hle : off + s.size ≤ (c.length : Int)) :
    Calls Try.prog 52 #[.slice ao c.length cap, .int .i64 off, .string s] w fun e w' => ∃ v', e = .returned v' ∧ Bts w' 5 v' (putL c off.toNat s.data.toList) ∧ Frm (Blk (.slice ao c.length cap)) w w' ∧ (∀ k, Blk v' k → Blk (.slice ao c.length cap) k ∨ w.heap.size ≤ k) := by
  obtain ⟨i0, hi, hz0, hz1, hz2⟩ := info_parts Try.info5
  have hsz5 : (Try.prog.info? 5).map (·.size) = some 1 := by simp [hi, hz1]
  have hsl : s.data.toList.length = s.size := by rw [Array.length_toList]; rfl
  have hd : off + s.size - c.length ≤ (0 : Int) := by omega
  have Hsl := Lib.hid hsl
  clear hsl
  go_enter Try.func52, Try.ntmps52
  go_wp2_with (first | ((with_reducible show wpList _ _ _ (⟨some 22, _, _, _, _, _⟩ :: _) _ _); refine wpList_slice_from rfl (.tmp 20) (.tmp 21) 56 rfl 5 Try.underlying56 hsz5 _ _ rfl h .i64 off rfl h0 (by omega) ?_; intro dp dCap hdp; have Hdp := Lib.hid hdp; clear hdp) | ((with_reducible show wpList _ _ _ (⟨some 24, _, _, _, _, _⟩ :: _) _ _); refine wpList_copy_string rfl (.tmp 22) (.tmp 23) 56 9 rfl 5 Try.underlying56 hsz5 _ _ _ s rfl rfl _ _ h off.toNat (by omega) (by omega) (fun hp => Hdp.out (by omega)) ?_; intro w2 hb2 hf2; clear Hdp))
  all_goals
    go_ret
    refine ⟨_, rfl, ?_, hf2, ?_⟩
    · rw [putL_room c off.toNat s.data.toList (by rw [Hsl.out]; omega), Hsl.out]
      exact hb2
    · intro k hk; exact .inl hk

theorem put_any (v : Value) (c : List UInt8) (off : Int) (s : ByteArray) (w : World) (h0 : 0 ≤ off) (h1 : off + s.size ≤ 16777216) (h2 : c.length ≤ 16777216) (h : Bts w 5 v c) :
    Calls Try.prog 52 #[v, .int .i64 off, .string s] w fun e w' => ∃ v', e = .returned v' ∧ Bts w' 5 v' (putL c off.toNat s.data.toList) ∧ Frm (Blk v) w w' ∧ (∀ k, Blk v' k → Blk v k ∨ w.heap.size ≤ k) := by
  obtain ⟨ao, cap, rfl, _⟩ := h.slice
  by_cases hlt : (c.length : Int) < off + s.size
  · exact put_grow ao cap c off s w h0 h1 h2 h hlt
  · exact put_room ao cap c off s w h0 h1 h2 h (by omega)
end Go.Proofs.Ytehdjajeonemoaa
