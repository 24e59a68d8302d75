/-
  The law DiskNil: what its code does. Conditions: none beyond the arguments in memory.
-/
import Derived.Test.YtehdjajeonemoaaLawReads
namespace Go.Proofs.Ytehdjajeonemoaa
open Go.RowKit

theorem write_nil (off : Int) (s : ByteArray) (w : World) :
    Calls Try.prog 33 #[.pointer none, .int .i64 off, .string s] w fun e w' => e = .returned (.int .i64 1) ∧ w = w' := by
  go_enter Try.func33, Try.ntmps33
  go_wp2
  go_ret
  exact ⟨rfl, rfl⟩

section calls
variable {w0 w : World} {L : List Thing}
theorem own_zero (h : Own w0 L w) : Own w0 (L ++ [diskT w.heap.size Dk.new 0]) (w.alloc (.cells #[.slice none 0 0, .slice none 0 0, .slice none 0 0, .int .i64 0, .bool false, .int .i64 0] 62)) := by
  refine h.add (T := diskT w.heap.size Dk.new 0) ⟨_, _, _, DiskR.new w, Dk.ok_new, ⟨Nat.le_refl _, Nat.le_refl _, Nat.le_refl _⟩, rfl⟩ ((Frm.refl _ _).alloc _) ?_
  rintro k (rfl | hk | hk | hk)
  · exact Nat.le_refl _
  · exact absurd hk Blk.nil
  · exact absurd hk Blk.nil
  · exact absurd hk Blk.nil
theorem own_crash_nil (h : Own w0 L w) (v : Value) : Calls Try.prog 29 #[.pointer none, v] w fun e w' => ∃ d, e = .returned (.pointer (some ⟨d, 0, none⟩)) ∧ Own w0 (L ++ [diskT d Dk.new 0]) w' := by
  refine (crash_nil v w).mono ?_
  rintro e w' ⟨rfl, rfl⟩
  exact ⟨_, rfl, own_zero h⟩
end calls

set_option maxRecDepth 100000 in
set_option maxHeartbeats 4000000 in
theorem law_nil (off : Int) (s : ByteArray) (aq : Option Addr) (capq : Nat) (q : List Int) (w : World) (hoff : -9223372036854775808 ≤ off ∧ off ≤ 9223372036854775807) (hs : s.size ≤ 9223372036854775807) (_hq : IntsAt w aq q) (_hqlen : q.length ≤ 9223372036854775807) :
    Calls Try.prog 12 #[.int .i64 off, .string s, .slice aq q.length capq] w fun e w' => e = .returned (.bool true) ∧ Frm (fun _ => False) w w' := by
  have Hoff := Lib.hid hoff
  clear hoff
  go_enter Try.func12, Try.ntmps12
  go_wp2_with fail
  refine (sanity_any _).mono ?_
  rintro e w1 ⟨rfl, f1⟩
  have h1 := (Own.start w).still f1
  clear f1
  go_wp2_with fail
  refine (fail_nil off _).mono ?_
  rintro e w2 ⟨rfl, rfl⟩
  go_wp2_with fail
  refine (own_crash_nil h1 _).mono ?_
  rintro e w2 ⟨c, rfl, h2⟩
  clear h1
  have h3 := own_zero h2
  go_wp2_with fail
  obtain ⟨d, hd⟩ : ∃ x, x = w2.heap.size := ⟨_, rfl⟩
  obtain ⟨w3, hw3⟩ : ∃ w3, w3 = w2.alloc (.cells #[.slice none 0 0, .slice none 0 0, .slice none 0 0, .int .i64 0, .bool false, .int .i64 0] 62) := ⟨_, rfl⟩
  rw [← hd, ← hw3] at h3 ⊢
  clear h2 hd hw3
  refine (own_rnew h3).mono ?_
  rintro e w4 ⟨m, rfl, h4⟩
  have h5 := h4.box #[.pointer (some ⟨d, 0, none⟩), .pointer (some ⟨m, 0, none⟩)] 30
  clear h3
  go_wp2_with fail
  obtain ⟨x, hx⟩ : ∃ x, x = w4.heap.size := ⟨_, rfl⟩
  obtain ⟨w5, hw5⟩ : ∃ w5, w5 = w4.alloc (.cells #[.pointer (some ⟨d, 0, none⟩), .pointer (some ⟨m, 0, none⟩)] 30) := ⟨_, rfl⟩
  rw [← hx, ← hw5] at h5 ⊢
  have h6 : Own w (deskL x d m Dk.new 0 ++ [diskT c Dk.new 0]) w5 := Own.rot (L := deskL x d m Dk.new 0) h5
  clear h4 h5 hx hw5
  refine (own_do h6 ⟨0, off, 0, s⟩ (ActV.ok_of 0 _ 0 s (by decide) Hoff.out (by decide) hs) (by decide)).mono ?_
  rintro e w6 ⟨rfl, d2, m2, h7⟩
  clear h6
  go_wp2_with fail
  refine (own_do h7 ⟨7, 0, off, ⟨#[]⟩⟩ (ActV.ok_of 7 0 _ ⟨#[]⟩ (by decide) (by decide) Hoff.out (by decide)) (by decide)).mono ?_
  rintro e w7 ⟨rfl, d3, m3, h8⟩
  clear h7
  go_wp2_with fail
  refine (own_same h8 0 1 2 rfl rfl rfl (by omega)).mono ?_
  rintro e w8 ⟨rfl, h9⟩
  clear h8
  go_wp2_with fail
  refine (size_nil _).mono ?_
  rintro e w9 ⟨rfl, rfl⟩
  go_wp2_with fail
  refine (calls_nil _).mono ?_
  rintro e w9 ⟨rfl, rfl⟩
  go_wp2_with fail
  refine (read_nil off 5 _).mono ?_
  rintro e w9 ⟨rfl, rfl⟩
  rw [show strV [] = .string ⟨#[]⟩ from rfl]
  go_wp2_with fail
  refine (write_nil off s _).mono ?_
  rintro e w9 ⟨rfl, rfl⟩
  go_wp2_with fail
  refine (sync_nil _).mono ?_
  rintro e w9 ⟨rfl, rfl⟩
  go_wp2_with fail
  refine (own_size h9 3 rfl).mono ?_
  rintro e w9 ⟨rfl, rfl⟩
  rw [show ((Dk.new.now.length : Nat) : Int) = 0 from rfl]
  go_wp2_with fail
  refine (own_write h9 3 rfl 0 ⟨#[97]⟩ (by decide) (by decide)).mono ?_
  rintro e w10 ⟨rfl, h10⟩
  rw [show (Dk.new.write 0 (⟨#[97]⟩ : ByteArray).data.toList).1 = 0 from rfl]
  clear h9
  go_wp2_with fail
  go_ret
  exact ⟨rfl, h10.frm⟩
end Go.Proofs.Ytehdjajeonemoaa
