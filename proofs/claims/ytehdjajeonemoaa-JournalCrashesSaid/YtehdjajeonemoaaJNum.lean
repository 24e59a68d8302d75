/-
  journal.number and journal.digits: numbers in eight bytes. Conditions: the string has eight bytes; the number is not negative.
-/
import Derived.Test.YtehdjajeonemoaaProg
import Derived.Test.YtehdjajeonemoaaJModel
import Derived.Test.YtehdjajeonemoaaKit
import Derived.Laws.BitsAllLaws
namespace Go.Proofs.Ytehdjajeonemoaa
open Go.RowKit

theorem ret_i64 {a b : Int} (h : a = b) : Ending.returned (.int .i64 a) = .returned (.int .i64 b) := by rw [h]
theorem take_snoc (s : ByteArray) (k : Nat) (h : k < s.size) : s.data.toList.take (k + 1) = s.data.toList.take k ++ [s[k]] := by
  rw [List.take_succ_eq_append_getElem (by simpa using h)]; rfl

theorem ofInt_wrap64 (a : Nat) (ha : a < 18446744073709551616) : (BitVec.ofInt 64 (wrap64 a)).toNat = a := by
  rw [BitVec.toNat_ofInt]
  unfold wrap64
  simp only [show ((2 ^ 64 : Nat) : Int) = 18446744073709551616 from by decide]
  omega
theorem or_byte (n c : Nat) (hn : n < 72057594037927936) (hc : c < 256) : bits .or .i64 (wrap64 ((n : Int) * 256)) (wrap64 (c : Int)) = wrap64 ((n * 256 + c : Nat) : Int) := by
  have h1 : n * 256 ||| c = n * 256 + c := by
    have := Nat.two_pow_add_eq_or_of_lt (i := 8) (b := c) hc n
    rw [show (2 : Nat) ^ 8 = 256 from rfl, Nat.mul_comm] at this
    exact this.symm
  show IntKind.i64.wrap ((BitVec.ofInt 64 (wrap64 ((n : Int) * 256)) ||| BitVec.ofInt 64 (wrap64 (c : Int))).toNat : Int) = _
  rw [show ((n : Int) * 256) = ((n * 256 : Nat) : Int) from by omega, BitVec.toNat_or, ofInt_wrap64 _ (by omega), ofInt_wrap64 _ (by omega), h1, IntKind.wrap_i64, wrap64]
theorem numI_wrap (l : List UInt8) (h : numN l < 18446744073709551616) : numI l = wrap64 (numN l) := by
  unfold numI wrap64
  generalize numN l = n at h ⊢
  by_cases h1 : n < 9223372036854775808
  · rw [if_pos h1]; omega
  · rw [if_neg h1]; omega
theorem numI_snoc (l : List UInt8) (c : UInt8) (h : l.length ≤ 7) : bits .or .i64 (wrap64 (numI l * 256)) (wrap64 (c.toNat : Int)) = numI (l ++ [c]) := by
  have h1 := numN_lt l
  have h2 : 256 ^ l.length ≤ 256 ^ 7 := Nat.pow_le_pow_right (by decide) h
  have h3 : (256 : Nat) ^ 7 = 72057594037927936 := by decide
  have h4 := c.toNat_lt
  have e : numI l = (numN l : Int) := by unfold numI; rw [if_pos (by omega)]
  rw [e, or_byte _ _ (by omega) h4, numI_wrap, numN_snoc]
  rw [numN_snoc]
  omega

set_option maxRecDepth 100000 in
set_option maxHeartbeats 1000000 in
theorem number_any (s : ByteArray) (w : World) (hs : s.size = 8) :
    Calls Try.prog 59 #[.string s] w fun e w' => e = .returned (.int .i64 (numI s.data.toList)) ∧ w = w' := by
  have h8 : s.size ≤ 8 := by omega
  have Hs := Lib.hid hs
  clear hs
  go_enter Try.func59, Try.ntmps59
  go_wp2
  go_loop [3, 7] (fun n i => ∃ k : Nat, k ≤ s.size ∧ i = .int .i64 k ∧ n = .int .i64 (numI (s.data.toList.take k))) (fun _ i => s.size - (intOf i).toNat)
  case atStart => exact ⟨0, Nat.zero_le _, rfl, rfl⟩
  case round =>
    obtain ⟨k, hk, rfl, rfl⟩ := hrel
    by_cases hlt : k < s.size
    · go_wp2
      go_round
      case rel => exact ⟨k + 1, by omega, by go_num, by rw [take_snoc s k hlt, numI_snoc _ _ (by simp; omega)]⟩
      case measure => simp [intOf]; omega
    · go_wp2
      go_ret
      exact ⟨ret_i64 (by rw [List.take_of_length_le (by rw [Array.length_toList]; show s.size ≤ k; omega)]), rfl⟩

def dcells (n k : Nat) : Array Value := ((be8 n).mapIdx fun i c => if i < k then bv c else .int .u8 0).toArray

theorem dcells_step (n k : Nat) (hk : k < 8) : (dcells n k).setIfInBounds k (bv ((be8 n).getD k 0)) = dcells n (k + 1) := by
  have h : k = 0 ∨ k = 1 ∨ k = 2 ∨ k = 3 ∨ k = 4 ∨ k = 5 ∨ k = 6 ∨ k = 7 := by omega
  rcases h with rfl | rfl | rfl | rfl | rfl | rfl | rfl | rfl <;> rfl

theorem dcells_all (n : Nat) : dcells n 8 = ((be8 n).map bv).toArray := rfl
/-- An array of eight bytes, converted to a string. -/
theorem conv8 (l : List UInt8) (hl : l.length = 8) (w : World) (b : Nat) (t : TypeId) (h : w.heap[b]? = some (.cells (l.map bv).toArray t (0, 0))) : (convert 56 9 (.slice (some ⟨b, 0, none⟩) 8 8)).run Try.prog w = .ok (.string ⟨l.toArray⟩) w := by
  have hlen : (l.map fun b => (b.toNat : Int)).length = 8 := by rw [List.length_map, hl]
  rw [run_convert_bytes_arg (P := Try.prog) w 56 5 Try.underlying56 Try.underlying5 b 0 8 8 (l.map fun b => (b.toNat : Int)) hlen (fun i hi => by
    rw [Nat.zero_add, cell_of_row w b i _ _ _ h]
    simp [bv, List.getD, hl, hi]) 9 Try.underlying9]
  congr 2
  simp only [strOfNums]
  congr 2
  rw [List.map_map]
  conv => rhs; rw [← List.map_id l]
  apply List.map_congr_left
  intro b _
  simp
/-- What changes new blocks alone changes nothing. -/
theorem Frm.trim {w w' : World} {b : Nat} (h : Frm (fun k => k = b) w w') (hb : b = w.heap.size) : Frm (fun _ => False) w w' :=
  ⟨h.os, h.tape, h.output, h.size, fun k hk _ => h.block k hk (by omega)⟩

set_option maxRecDepth 100000 in
set_option maxHeartbeats 1000000 in
theorem digits_any (n : Nat) (w : World) (hn : n ≤ 9223372036854775807) :
    Calls Try.prog 62 #[.int .i64 n] w fun e w' => e = .returned (.string ⟨(be8 n).toArray⟩) ∧ Frm (fun _ => False) w w' := by
  go_enter Try.func62, Try.ntmps62
  go_wp2
  obtain ⟨b, hb⟩ : ∃ b, b = w.heap.size := ⟨_, rfl⟩
  have hnew := heap_alloc_new w (.cells #[Value.int IntKind.u8 0, Value.int IntKind.u8 0, Value.int IntKind.u8 0, Value.int IntKind.u8 0, Value.int IntKind.u8 0, Value.int IntKind.u8 0, Value.int IntKind.u8 0, Value.int IntKind.u8 0] 106)
  have hfr : Frm (fun k => k = b) w (w.alloc (.cells #[Value.int IntKind.u8 0, Value.int IntKind.u8 0, Value.int IntKind.u8 0, Value.int IntKind.u8 0, Value.int IntKind.u8 0, Value.int IntKind.u8 0, Value.int IntKind.u8 0, Value.int IntKind.u8 0] 106)) := (Frm.refl _ _).alloc _
  rw [← hb] at hnew ⊢
  have Hb := Lib.hid hb
  clear hb
  go_loopw [5] (fun i wr => ∃ k : Nat, k ≤ 8 ∧ i = .int .i64 k ∧ wr.heap[b]? = some (.cells (dcells n k) 106 (0, 0)) ∧ Frm (fun k => k = b) w wr) (fun i _ => 8 - (intOf i).toNat)
  case atStart => exact ⟨0, by decide, rfl, hnew, hfr⟩
  case round =>
    obtain ⟨k, hk, rfl, hob, hf⟩ := hrel
    clear hnew hfr
    have hlt : k = 0 ∨ k = 1 ∨ k = 2 ∨ k = 3 ∨ k = 4 ∨ k = 5 ∨ k = 6 ∨ k = 7 ∨ k = 8 := by omega
    clear hk
    rcases hlt with rfl | rfl | rfl | rfl | rfl | rfl | rfl | rfl | rfl
    · have hz := frozen_of_row wr b 0 _ _ hob
      have hc : wr.cell? ⟨b, 0, none⟩ = some (.int .u8 0) := by rw [cell_of_row wr b 0 _ _ _ hob]; rfl
      have Hob := Lib.hid hob
      clear hob
      go_wp2
      go_roundw
      case rel => exact ⟨1, by decide, rfl, by rw [← dcells_step n 0 (by decide)]; rw [show bv ((be8 n).getD 0 0) = Value.int .u8 ((n : Int) / 72057594037927936) from by show Value.int .u8 ((UInt8.ofNat (n / 72057594037927936)).toNat : Int) = _; rw [UInt8.toNat_ofNat']; congr 1 <;> omega]; exact heap_setCell_same _ _ _ _ _ _ Hob.out, hf.setCell (.inl rfl) _⟩
      case measure => simp [intOf]
    · have hz := frozen_of_row wr b 1 _ _ hob
      have hc : wr.cell? ⟨b, 1, none⟩ = some (.int .u8 0) := by rw [cell_of_row wr b 1 _ _ _ hob]; rfl
      have Hob := Lib.hid hob
      clear hob
      go_wp2
      go_roundw
      case rel => exact ⟨2, by decide, rfl, by rw [← dcells_step n 1 (by decide)]; rw [show bv ((be8 n).getD 1 0) = Value.int .u8 ((n : Int) / 281474976710656 % 256) from by show Value.int .u8 ((UInt8.ofNat (n / 281474976710656)).toNat : Int) = _; rw [UInt8.toNat_ofNat']; congr 1 <;> omega]; exact heap_setCell_same _ _ _ _ _ _ Hob.out, hf.setCell (.inl rfl) _⟩
      case measure => simp [intOf]
    · have hz := frozen_of_row wr b 2 _ _ hob
      have hc : wr.cell? ⟨b, 2, none⟩ = some (.int .u8 0) := by rw [cell_of_row wr b 2 _ _ _ hob]; rfl
      have Hob := Lib.hid hob
      clear hob
      go_wp2
      go_roundw
      case rel => exact ⟨3, by decide, rfl, by rw [← dcells_step n 2 (by decide)]; rw [show bv ((be8 n).getD 2 0) = Value.int .u8 ((n : Int) / 1099511627776 % 256) from by show Value.int .u8 ((UInt8.ofNat (n / 1099511627776)).toNat : Int) = _; rw [UInt8.toNat_ofNat']; congr 1 <;> omega]; exact heap_setCell_same _ _ _ _ _ _ Hob.out, hf.setCell (.inl rfl) _⟩
      case measure => simp [intOf]
    · have hz := frozen_of_row wr b 3 _ _ hob
      have hc : wr.cell? ⟨b, 3, none⟩ = some (.int .u8 0) := by rw [cell_of_row wr b 3 _ _ _ hob]; rfl
      have Hob := Lib.hid hob
      clear hob
      go_wp2
      go_roundw
      case rel => exact ⟨4, by decide, rfl, by rw [← dcells_step n 3 (by decide)]; rw [show bv ((be8 n).getD 3 0) = Value.int .u8 ((n : Int) / 4294967296 % 256) from by show Value.int .u8 ((UInt8.ofNat (n / 4294967296)).toNat : Int) = _; rw [UInt8.toNat_ofNat']; congr 1 <;> omega]; exact heap_setCell_same _ _ _ _ _ _ Hob.out, hf.setCell (.inl rfl) _⟩
      case measure => simp [intOf]
    · have hz := frozen_of_row wr b 4 _ _ hob
      have hc : wr.cell? ⟨b, 4, none⟩ = some (.int .u8 0) := by rw [cell_of_row wr b 4 _ _ _ hob]; rfl
      have Hob := Lib.hid hob
      clear hob
      go_wp2
      go_roundw
      case rel => exact ⟨5, by decide, rfl, by rw [← dcells_step n 4 (by decide)]; rw [show bv ((be8 n).getD 4 0) = Value.int .u8 ((n : Int) / 16777216 % 256) from by show Value.int .u8 ((UInt8.ofNat (n / 16777216)).toNat : Int) = _; rw [UInt8.toNat_ofNat']; congr 1 <;> omega]; exact heap_setCell_same _ _ _ _ _ _ Hob.out, hf.setCell (.inl rfl) _⟩
      case measure => simp [intOf]
    · have hz := frozen_of_row wr b 5 _ _ hob
      have hc : wr.cell? ⟨b, 5, none⟩ = some (.int .u8 0) := by rw [cell_of_row wr b 5 _ _ _ hob]; rfl
      have Hob := Lib.hid hob
      clear hob
      go_wp2
      go_roundw
      case rel => exact ⟨6, by decide, rfl, by rw [← dcells_step n 5 (by decide)]; rw [show bv ((be8 n).getD 5 0) = Value.int .u8 ((n : Int) / 65536 % 256) from by show Value.int .u8 ((UInt8.ofNat (n / 65536)).toNat : Int) = _; rw [UInt8.toNat_ofNat']; congr 1 <;> omega]; exact heap_setCell_same _ _ _ _ _ _ Hob.out, hf.setCell (.inl rfl) _⟩
      case measure => simp [intOf]
    · have hz := frozen_of_row wr b 6 _ _ hob
      have hc : wr.cell? ⟨b, 6, none⟩ = some (.int .u8 0) := by rw [cell_of_row wr b 6 _ _ _ hob]; rfl
      have Hob := Lib.hid hob
      clear hob
      go_wp2
      go_roundw
      case rel => exact ⟨7, by decide, rfl, by rw [← dcells_step n 6 (by decide)]; rw [show bv ((be8 n).getD 6 0) = Value.int .u8 ((n : Int) / 256 % 256) from by show Value.int .u8 ((UInt8.ofNat (n / 256)).toNat : Int) = _; rw [UInt8.toNat_ofNat']; congr 1 <;> omega]; exact heap_setCell_same _ _ _ _ _ _ Hob.out, hf.setCell (.inl rfl) _⟩
      case measure => simp [intOf]
    · have hz := frozen_of_row wr b 7 _ _ hob
      have hc : wr.cell? ⟨b, 7, none⟩ = some (.int .u8 0) := by rw [cell_of_row wr b 7 _ _ _ hob]; rfl
      have Hob := Lib.hid hob
      clear hob
      go_wp2
      go_roundw
      case rel => exact ⟨8, by decide, rfl, by rw [← dcells_step n 7 (by decide)]; rw [show bv ((be8 n).getD 7 0) = Value.int .u8 ((n : Int) % 256) from by show Value.int .u8 ((UInt8.ofNat (n)).toNat : Int) = _; rw [UInt8.toNat_ofNat']; congr 1 <;> omega]; exact heap_setCell_same _ _ _ _ _ _ Hob.out, hf.setCell (.inl rfl) _⟩
      case measure => simp [intOf]
    · have hcv := conv8 (be8 n) (be8_length n) wr b 106 (by rw [hob, dcells_all])
      have Hob := Lib.hid hob
      clear hob
      go_wp2
      go_ret
      exact ⟨rfl, hf.trim Hb.out⟩
end Go.Proofs.Ytehdjajeonemoaa
