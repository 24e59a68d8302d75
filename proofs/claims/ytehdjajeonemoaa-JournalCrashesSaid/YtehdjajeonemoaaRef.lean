/-
  The reference disk: Put, off, the small methods. Conditions: the numbers lie within their kinds.
-/
import Derived.Test.YtehdjajeonemoaaCrash
import Derived.WalkSpells
import Derived.Deep.QuietTactic
import Derived.BigQuiet
namespace Go.Proofs.Ytehdjajeonemoaa
open Go.RowKit

theorem strV_of (r : ByteArray) : Value.string r = strV r.data.toList := by
  unfold strV
  congr 1
theorem strV_inj {a b : List UInt8} (h : a = b) : strV a = strV b := by rw [h]

/-- A reference disk in the heap. -/
structure RefR (w : World) (m : Nat) (p : Value) (lf : Int) (D : Dk) : Prop where
  obj : w.heap[m]? = some (.cells #[strV D.now, strV D.synced, p, .int .i64 D.calls, .int .i64 lf, .bool D.limited] 85 (0, 0))
  bp : w.ownsRow 0 92 2 p D.pend.length (pieceCells D.pend)
  pd : ¬ Blk p m
  lim : D.limited = true → lf = D.left

def RfF (m : Nat) (p : Value) : Nat → Prop := fun k => k = m ∨ Blk p k
theorem RefR.lt {w : World} {m : Nat} {p : Value} {lf : Int} {D : Dk} (h : RefR w m p lf D) : m < w.heap.size := (Array.getElem?_eq_some_iff.1 h.obj).1
theorem RefR.Flt {w : World} {m : Nat} {p : Value} {lf : Int} {D : Dk} (h : RefR w m p lf D) {k : Nat} (hk : RfF m p k) : k < w.heap.size := by
  rcases hk with rfl | hk
  · exact h.lt
  · exact (World.ownsRow.lt h.bp k hk).2
theorem RefR.frm {w w' : World} {m : Nat} {p : Value} {lf : Int} {D : Dk} {F : Nat → Prop} (h : RefR w m p lf D) (hf : Frm F w w') (hF : ∀ k, RfF m p k → ¬ F k) : RefR w' m p lf D :=
  { h with
    obj := hf.heap h.obj (hF m (.inl rfl))
    bp := ownsRow_frm h.bp hf fun k hk => hF k (.inr hk) }

theorem rnew_any (w : World) : Calls Try.prog 21 #[] w fun e w' => e = .returned (.pointer (some ⟨w.heap.size, 0, none⟩)) ∧ w' = w.alloc (.cells #[strV [], strV [], .slice none 0 0, .int .i64 0, .int .i64 0, .bool false] 85) := by
  go_enter Try.func21, Try.ntmps21
  go_wp2
  go_ret
  exact ⟨rfl, rfl⟩
theorem rnew_abs (w : World) : Calls Try.prog 21 #[] w fun e w' => e = .returned (.pointer (some ⟨w.heap.size, 0, none⟩)) ∧ RefR w' w.heap.size (.slice none 0 0) 0 Dk.new ∧ Frm (fun _ => False) w w' :=
  (rnew_any w).mono fun e w' ⟨he, hw⟩ => by
    subst hw
    exact ⟨he, ⟨heap_alloc_new w _, World.ownsRow_nil _ _ _ _, Blk.nil, fun h => by cases h⟩, (Frm.refl _ w).alloc _⟩

theorem rsize_any (m : Nat) (s : List UInt8) (b p x y z : Value) (w : World) (h : w.heap[m]? = some (.cells #[strV s, b, p, x, y, z] 85 (0, 0))) :
    Calls Try.prog 24 #[.pointer (some ⟨m, 0, none⟩)] w fun e w' => e = .returned (.int .i64 s.length) ∧ w = w' := by
  obtain ⟨h0, -⟩ := cells6 h
  unfold strV at h0
  clear h
  go_enter Try.func24, Try.ntmps24
  go_wp2
  go_ret
  refine ⟨?_, rfl⟩
  simp

theorem rcalls_any (m : Nat) (a b p y z : Value) (n : Int) (w : World) (h : w.heap[m]? = some (.cells #[a, b, p, .int .i64 n, y, z] 85 (0, 0))) :
    Calls Try.prog 26 #[.pointer (some ⟨m, 0, none⟩)] w fun e w' => e = .returned (.int .i64 n) ∧ w = w' := by
  obtain ⟨-, -, -, h3, -⟩ := cells6 h
  clear h
  go_enter Try.func26, Try.ntmps26
  go_wp2
  go_ret
  exact ⟨rfl, rfl⟩

/-- off of the reference: whether the power is off; it counts. -/
theorem roff_any (m : Nat) (a b p : Value) (calls : Nat) (lim : Bool) (lf : Int) (w : World) (h : w.heap[m]? = some (.cells #[a, b, p, .int .i64 calls, .int .i64 lf, .bool lim] 85 (0, 0))) (hc : calls ≤ 1099511627776) (hl : -1099511627776 ≤ lf) (hl2 : lf ≤ 1099511627776) (hoff : (lim && lf == 0) = false) :
    Calls Try.prog 58 #[.pointer (some ⟨m, 0, none⟩)] w fun e w' => e = .returned (.bool false) ∧ w'.heap[m]? = some (.cells #[a, b, p, .int .i64 (calls + 1 : Nat), .int .i64 (lf - 1), .bool lim] 85 (0, 0)) ∧ Frm (fun k => k = m) w w' := by
  have H := Lib.hid h
  obtain ⟨h0, h1, h2, h3, h4, h5, -, -, -, f3, f4, -⟩ := cells6 h
  clear h
  cases lim
  · clear hoff
    go_enter Try.func58, Try.ntmps58
    go_wp2
    go_ret
    exact ⟨rfl, heap_set (heap_set H.out _) _, ((Frm.refl (fun k => k = m) _).setCell (.inl rfl) _).setCell (.inl rfl) _⟩
  · have hz : (lf == 0) = false := by simpa using hoff
    clear hoff
    go_enter Try.func58, Try.ntmps58
    go_wp2
    go_ret
    exact ⟨rfl, heap_set (heap_set H.out _) _, ((Frm.refl (fun k => k = m) _).setCell (.inl rfl) _).setCell (.inl rfl) _⟩

theorem roff_true (m : Nat) (a b p c : Value) (lf : Int) (w : World) (h : w.heap[m]? = some (.cells #[a, b, p, c, .int .i64 lf, .bool true] 85 (0, 0))) (hz : (lf == 0) = true) :
    Calls Try.prog 58 #[.pointer (some ⟨m, 0, none⟩)] w fun e w' => e = .returned (.bool true) ∧ w = w' := by
  obtain ⟨h0, h1, h2, h3, h4, h5, -⟩ := cells6 h
  clear h
  go_enter Try.func58, Try.ntmps58
  go_wp2
  go_ret
  exact ⟨rfl, rfl⟩

theorem rfail_any (m : Nat) (a b p x y z : Value) (n : Int) (w : World) (h : w.heap[m]? = some (.cells #[a, b, p, x, y, z] 85 (0, 0))) :
    Calls Try.prog 50 #[.pointer (some ⟨m, 0, none⟩), .int .i64 n] w fun e w' => e = .returned (.tuple #[]) ∧ w'.heap[m]? = some (.cells #[a, b, p, x, .int .i64 n, .bool (decide (0 ≤ n))] 85 (0, 0)) ∧ Frm (fun k => k = m) w w' := by
  have H := Lib.hid h
  obtain ⟨h0, h1, h2, h3, h4, h5, -, -, -, -, f4, f5⟩ := cells6 h
  clear h
  go_enter Try.func50, Try.ntmps50
  go_wp2
  all_goals go_end0
  all_goals refine ⟨rfl, ?_, ((Frm.refl (fun k => k = m) _).setCell (.inl rfl) _).setCell (.inl rfl) _⟩
  all_goals rw [heap_set (heap_set H.out _) _]; rfl

set_option maxRecDepth 100000 in
theorem rread_any (m : Nat) (c : List UInt8) (b p x y z : Value) (off n : Int) (w : World) (hobj : w.heap[m]? = some (.cells #[strV c, b, p, x, y, z] 85 (0, 0))) (hn : n ≤ 9223372036854775807) (hl : c.length ≤ 16777216) :
    Calls Try.prog 37 #[.pointer (some ⟨m, 0, none⟩), .int .i64 off, .int .i64 n] w fun e w' => e = .returned (strV (if off < 0 ∨ n < 1 ∨ off ≥ c.length then [] else (c.drop off.toNat).take n.toNat)) ∧ ∃ k, w' = w.drewN k := by
  obtain ⟨c0, -⟩ := cells6 hobj
  clear hobj
  have hcs : (⟨c.toArray⟩ : ByteArray).size = c.length := List.size_toArray
  obtain ⟨r, hr⟩ : ∃ r : ByteArray, r = ⟨c.toArray⟩ := ⟨_, rfl⟩
  unfold strV at c0
  rw [← hr] at c0 hcs
  have hrl : r.size ≤ 16777216 := by omega
  have hrc : r.data.toList = c := by rw [hr]
  rw [← hcs]
  have Hrc := Lib.hid hrc
  clear hr hcs hl hrc
  by_cases h : off < 0 ∨ n < 1 ∨ off ≥ (r.size : Int)
  · rw [if_pos h]
    by_cases h0 : off < 0
    · clear h
      go_enter Try.func37, Try.ntmps37
      go_wp2
      go_ret
      exact ⟨rfl, 0, rfl⟩
    · by_cases h1 : n < 1
      · clear h
        go_enter Try.func37, Try.ntmps37
        go_wp2
        go_ret
        exact ⟨rfl, 0, rfl⟩
      · have h2 : (r.size : Int) ≤ off := by omega
        clear h
        go_enter Try.func37, Try.ntmps37
        go_wp2
        go_ret
        exact ⟨rfl, 0, rfl⟩
  · rw [if_neg h]
    have h0 : 0 ≤ off := by omega
    have h1 : 1 ≤ n := by omega
    have h2 : off < (r.size : Int) := by omega
    clear h
    have hsz : r.data.toList.length = r.size := by rw [Array.length_toList]; rfl
    have Hsz := Lib.hid hsz
    clear hsz
    have w1 : IntKind.i64.wrap ((r.size : Int) - off) = (r.size : Int) - off := IntWalk.i64_in _ (by omega)
    by_cases hm : n ≤ (r.size : Int) - off
    · have w2 : IntKind.i64.wrap (off + n) = off + n := IntWalk.i64_in _ (by omega)
      have hm2 : ¬ ((r.size : Int) - off < n) := by omega
      have b1 : off + n ≤ (r.size : Int) := by omega
      have b2 : off ≤ off + n := by omega
      have b3 : 0 ≤ off + n := by omega
      go_enter Try.func37, Try.ntmps37
      go_wp2
      go_quiet (fail)
      go_wp2
      go_ret
      refine ⟨congrArg Ending.returned ((strV_of _).trans (strV_inj ?_)), _, rfl⟩
      rw [Lib.extract_data, ← Hrc.out]
      congr 1
      omega
    · have w2 : IntKind.i64.wrap (off + ((r.size : Int) - off)) = r.size := by rw [IntWalk.i64_in _ (by omega)]; omega
      have hm2 : (r.size : Int) - off < n := by omega
      have b2 : off ≤ (r.size : Int) := by omega
      go_enter Try.func37, Try.ntmps37
      go_wp2
      go_quiet (fail)
      go_wp2
      go_ret
      refine ⟨congrArg Ending.returned ((strV_of _).trans (strV_inj ?_)), _, rfl⟩
      rw [Lib.extract_data, ← Hrc.out]
      rw [List.take_of_length_le (by rw [List.length_drop, Hsz.out]; omega), List.take_of_length_le (by rw [List.length_drop, Hsz.out]; omega)]
end Go.Proofs.Ytehdjajeonemoaa
