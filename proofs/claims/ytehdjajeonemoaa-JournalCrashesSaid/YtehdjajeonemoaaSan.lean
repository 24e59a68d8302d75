/-
  sanity of law 30: true, and nothing of before is changed. Conditions: none.
-/
import Derived.Test.YtehdjajeonemoaaOwn
namespace Go.Proofs.Ytehdjajeonemoaa
open Go.RowKit

section eqs
variable {w0 w : World} {L : List Thing}
theorem own_write_eq (h : Own w0 L w) {d : Nat} {D D' : Dk} {n : Nat} {r : Int} {L' : List Thing} (i : Nat) (hi : L[i]? = some (diskT d D n)) (off : Int) (s : ByteArray) (hn : n + s.size ≤ 1099511627776) (ho : -9223372036854775808 ≤ off) (hr : D.write off s.data.toList = (r, D')) (hL : L.set i (diskT d D' (n + s.size + 1)) = L') :
    Calls Try.prog 33 #[.pointer (some ⟨d, 0, none⟩), .int .i64 off, .string s] w fun e w' => e = .returned (.int .i64 r) ∧ Own w0 L' w' := by
  have := own_write h i hi off s hn ho
  rw [hr, hL] at this
  exact this
theorem own_sync_eq (h : Own w0 L w) {d : Nat} {D D' : Dk} {n : Nat} {r : Int} {L' : List Thing} (i : Nat) (hi : L[i]? = some (diskT d D n)) (hn : n ≤ 1099511627776) (hr : D.sync = (r, D')) (hL : L.set i (diskT d D' (n + 1)) = L') :
    Calls Try.prog 34 #[.pointer (some ⟨d, 0, none⟩)] w fun e w' => e = .returned (.int .i64 r) ∧ Own w0 L' w' := by
  have := own_sync h i hi hn
  rw [hr, hL] at this
  exact this
theorem own_read_eq (h : Own w0 L w) {d : Nat} {D : Dk} {n : Nat} {r : ByteArray} (i : Nat) (hi : L[i]? = some (diskT d D n)) (off k : Int) (hk : k ≤ 9223372036854775807) (hr : (⟨(D.read off k).toArray⟩ : ByteArray) = r) : Calls Try.prog 35 #[.pointer (some ⟨d, 0, none⟩), .int .i64 off, .int .i64 k] w fun e w' => e = .returned (.string r) ∧ Own w0 L w' := by
  have := own_read h i hi off k hk
  rw [hr] at this
  exact this
theorem own_crash_eq (h : Own w0 L w) {d : Nat} {D D' : Dk} {n : Nat} (i : Nat) (hi : L[i]? = some (diskT d D n)) (hn : n ≤ 1099511627776) (aq : Option Addr) (capq : Nat) (q : List Int) (hq : IntsAt w aq q) (hql : q.length ≤ 9223372036854775807) (l : Nat) (hl : l = q.length) (hr : D.crash q = D') :
    Calls Try.prog 29 #[.pointer (some ⟨d, 0, none⟩), .slice aq l capq] w fun e w' => ∃ d', e = .returned (.pointer (some ⟨d', 0, none⟩)) ∧ Own w0 (L ++ [diskT d' D' 0]) w' := by
  have := own_crash h i hi hn aq capq q hq hql
  rw [hr, ← hl] at this
  exact this
end eqs

theorem IntsAt.nil (w : World) : IntsAt w none [] := fun i h => absurd h (Nat.not_lt_zero i)
theorem IntsAt.fresh (w : World) (a b : Int) (ha : -9223372036854775808 ≤ a ∧ a ≤ 9223372036854775807) (hb : -9223372036854775808 ≤ b ∧ b ≤ 9223372036854775807) : IntsAt (w.alloc (.cells #[.int .i64 a, .int .i64 b] 3)) (some ⟨w.heap.size, 0, none⟩) [a, b] := by
  have hc := new_cells w #[.int .i64 a, .int .i64 b] 3 w.heap.size rfl
  intro i hi
  match i, hi with
  | 0, _ => exact ⟨_, _, rfl, hc 0 _ rfl, ha.1, ha.2⟩
  | 1, _ => exact ⟨_, _, rfl, hc 1 _ rfl, hb.1, hb.2⟩

def sanD1 : Dk := (Dk.new.write 2 [97, 98]).2
def sanD2 : Dk := sanD1.sync.2
def sanD3 : Dk := (sanD2.write 3 [120, 121, 122]).2
def sanX : ByteArray := ⟨(List.replicate 70 120).toArray⟩
def sanE : Dk := (Dk.new.write 60 (List.replicate 70 120)).2
def sanF : Dk := sanE.crash [0, 1]
def sanC : Dk := sanD3.crash []
def sanG1 : Dk := Dk.new.fail 1
def sanG2 : Dk := sanG1.sync.2
theorem san1 : Dk.new.write 2 [97, 98] = (0, sanD1) := rfl
theorem san2 : sanD1.now.length = 4 := by decide
theorem san3 : sanD1.read 0 9 = [0, 0, 97, 98] := by decide
theorem san4 : sanD1.sync = (0, sanD2) := rfl
theorem san5 : sanD2.write 3 [120, 121, 122] = (0, sanD3) := rfl
theorem san6 : sanC.read 0 9 = [0, 0, 97, 98] := by decide
theorem san7 : Dk.new.write 60 (List.replicate 70 120) = (0, sanE) := rfl
theorem san8 : sanF.now.length = 128 := by decide +kernel
theorem san9 : sanF.read 60 9 = [0, 0, 0, 0, 120, 120, 120, 120, 120] := by decide +kernel
theorem san10 : sanG1.sync = (0, sanG2) := rfl
theorem san11 : sanG2.write 0 [97] = (70, sanG2) := rfl
theorem san12 : sanG2.write (-1) [97] = (1, sanG2) := rfl
theorem san13 : sanG2.calls = 1 := rfl

set_option maxRecDepth 100000 in
set_option maxHeartbeats 4000000 in
theorem sanity_any (w : World) : Calls Try.prog 19 #[] w fun e w' => e = .returned (.bool true) ∧ Frm (fun _ => False) w w' := by
  have h0 := Own.start w
  go_enter Try.func19, Try.ntmps19
  go_wp2_with fail
  refine (own_new h0).mono ?_
  rintro e w1 ⟨d, rfl, h1⟩
  go_wp2_with fail
  refine (own_write_eq h1 0 rfl 2 _ (by decide) (by decide) san1 rfl).mono ?_
  rintro e w2 ⟨rfl, h2⟩
  go_wp2_with fail
  refine (own_size h2 0 rfl).mono ?_
  rintro e w3 ⟨rfl, rfl⟩
  rw [san2]
  go_wp2_with fail
  refine (own_read_eq h2 0 rfl 0 9 (by decide) (congrArg (fun l : List UInt8 => (⟨l.toArray⟩ : ByteArray)) san3)).mono ?_
  rintro e w3 ⟨rfl, h3⟩
  go_wp2_with fail
  refine (own_sync_eq h3 0 rfl (by decide) san4 rfl).mono ?_
  rintro e w4 ⟨rfl, h4⟩
  go_wp2_with fail
  refine (own_write_eq h4 0 rfl 3 _ (by decide) (by decide) san5 rfl).mono ?_
  rintro e w5 ⟨rfl, h5⟩
  go_wp2_with fail
  refine (own_crash_eq h5 0 rfl (by decide) none 0 [] (IntsAt.nil _) (by decide) 0 rfl rfl).mono ?_
  rintro e w6 ⟨c, rfl, h6⟩
  go_wp2_with fail
  refine (own_new h6).mono ?_
  rintro e w7 ⟨d2, rfl, h7⟩
  go_wp2_with fail
  refine (repeated_any 120 70 _ (by decide)).mono ?_
  rintro e w8 ⟨rfl, f8⟩
  have h8 := h7.still f8
  go_wp2_with fail
  refine (own_write_eq h8 2 rfl 60 _ (by decide) (by decide) san7 rfl).mono ?_
  rintro e w9 ⟨rfl, h9⟩
  go_wp2_with fail
  have h9a := h9.alloc (.cells #[.int .i64 0, .int .i64 1] 3)
  refine (own_crash_eq h9a 2 rfl (by decide) _ 2 [0, 1] (IntsAt.fresh _ 0 1 (by decide) (by decide)) (by decide) 2 rfl rfl).mono ?_
  rintro e w10 ⟨f, rfl, h10⟩
  go_wp2_with fail
  refine (own_new h10).mono ?_
  rintro e w11 ⟨g, rfl, h11⟩
  go_wp2_with fail
  refine (own_fail h11 4 rfl 1 1 (by decide) (by decide)).mono ?_
  rintro e w12 ⟨rfl, h12⟩
  go_wp2_with fail
  refine (own_sync_eq h12 4 rfl (by decide) san10 rfl).mono ?_
  rintro e w13 ⟨rfl, h13⟩
  go_wp2_with fail
  refine (own_write_eq h13 4 rfl 0 _ (by decide) (by decide) san11 rfl).mono ?_
  rintro e w14 ⟨rfl, h14⟩
  go_wp2_with fail
  refine (own_write_eq h14 4 rfl (-1) _ (by decide) (by decide) san12 rfl).mono ?_
  rintro e w15 ⟨rfl, h15⟩
  go_wp2_with fail
  refine (own_calls h15 4 rfl).mono ?_
  rintro e w16 ⟨rfl, rfl⟩
  rw [san13]
  go_wp2_with fail
  refine (own_read_eq h15 1 rfl 0 9 (by decide) (congrArg (fun l : List UInt8 => (⟨l.toArray⟩ : ByteArray)) san6)).mono ?_
  rintro e w16 ⟨rfl, h16⟩
  go_wp2_with fail
  refine (own_size h16 3 rfl).mono ?_
  rintro e w17 ⟨rfl, rfl⟩
  have e8 : ((Dk.crash sanE [0, 1]).now.length : Int) = 128 := congrArg Nat.cast san8
  rw [e8]
  go_wp2_with fail
  refine (own_read_eq h16 3 rfl 60 9 (by decide) (congrArg (fun l : List UInt8 => (⟨l.toArray⟩ : ByteArray)) san9)).mono ?_
  rintro e w17 ⟨rfl, h17⟩
  go_wp2_with fail
  go_ret
  exact ⟨rfl, h17.frm⟩
end Go.Proofs.Ytehdjajeonemoaa
