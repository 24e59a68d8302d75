/-
  The sanity of law 31: the examples of the chapter. Conditions: none.
-/
import Derived.Test.YtehdjajeonemoaaJUse
namespace Go.Proofs.Ytehdjajeonemoaa
open Go.RowKit

theorem strs_of_cells {w : World} {b : Nat} {cs : Array Value} {l : List (List UInt8)} (h : w.heap[b]? = some (.cells cs 9 (0, 0))) (hc : cs.toList = l.map strV') : StrsAt w (some ⟨b, 0, none⟩) l := by
  intro i hi
  refine ⟨b, 0, rfl, ?_⟩
  rw [cell_of_row w b (0 + i) _ _ _ h, Nat.zero_add]
  have : cs[i]? = (l.map strV')[i]? := by rw [← hc, Array.getElem?_toList]
  rw [this, List.getElem?_map, List.getElem?_eq_getElem hi]
  rfl

set_option maxRecDepth 100000 in
set_option maxHeartbeats 4000000 in
theorem jsanity_any (w : World) : Calls Try.prog 39 #[] w fun e w' => e = .returned (.bool true) ∧ Frm (fun _ => False) w w' := by
  have h0 := Own.start w
  have hf1 : (Jn.of []).fits (⟨#[97]⟩ : ByteArray).size = true := by decide
  have hf2 : (Jn.of [[97]]).fits (⟨#[]⟩ : ByteArray).size = true := by decide
  have hf3 : (Jn.of [[97], []]).fits (⟨#[98]⟩ : ByteArray).size = true := by decide
  have Hf := Lib.hid (And.intro hf1 (And.intro hf2 hf3))
  clear hf1 hf2 hf3
  go_enter Try.func39, Try.ntmps39
  go_wp2_with fail
  refine (own_new h0).mono ?_
  rintro e w1 ⟨d, rfl, h1⟩
  clear h0
  go_wp2_with fail
  refine (own_opened (R := []) h1 0 rfl rfl (by decide) Good.nil).mono ?_
  rintro e w2 ⟨j, v, D1, rfl, i1, l1, h2⟩
  clear h1
  obtain ⟨ao, cap, rfl⟩ := strs_form (h2.strs 2 rfl).1
  have L1 := Lib.hid l1
  clear l1
  go_wp2_with fail
  refine (own_append_on (R := []) h2 0 1 rfl rfl (by decide) i1 L1.out _ Hf.out.1 (by decide)).mono ?_
  rintro e w3 ⟨rfl, D2, i2, l2, h3⟩
  have L2 := Lib.hid l2
  clear l2 h2
  go_wp2_with fail
  refine (own_append_on (R := [[97]]) h3 0 1 rfl rfl (by decide) i2 L2.out _ Hf.out.2.1 (by decide)).mono ?_
  rintro e w4 ⟨rfl, D3, i3, l3, h4⟩
  have L3 := Lib.hid l3
  clear l3 h3
  go_wp2_with fail
  refine (own_many (J := Jn.of [[97], []]) h4 1 rfl).mono ?_
  rintro e w5 ⟨rfl, rfl⟩
  rw [show (((Jn.of [[97], []]).many : Nat) : Int) = 2 from rfl]
  go_wp2_with fail
  refine (own_crash_eq (q := []) h4 0 rfl (by decide) none 0 (fun i hi => absurd hi (Nat.not_lt_zero _)) (by decide) 0 rfl rfl).mono ?_
  rintro e w5 ⟨c, rfl, h5⟩
  clear h4
  go_wp2_with fail
  refine (own_opened (R := [[97], []]) h5 3 rfl rfl (by decide) (i3.crash []).good).mono ?_
  rintro e w6 ⟨j2, v2, D5, rfl, i5, -, h6⟩
  clear h5
  obtain ⟨ao2, cap2, rfl⟩ := strs_form (h6.strs 5 rfl).1
  go_wp2_with fail
  refine (own_fail h6 0 rfl 0 1000 (by decide) (by decide)).mono ?_
  rintro e w7 ⟨rfl, h7⟩
  clear h6
  go_wp2_with fail
  refine (own_append_off (R := [[97], []]) h7 0 1 rfl rfl (by decide) rfl _ Hf.out.2.2 (by decide)).mono ?_
  rintro e w8 ⟨rfl, h8⟩
  clear h7
  go_wp2_with fail
  refine (own_japp_broken h8 1 rfl rfl _).mono ?_
  rintro e w9 ⟨rfl, h9⟩
  clear h8
  go_wp2_with fail
  refine (own_crash_eq (q := []) h9 0 rfl (by decide) none 0 (fun i hi => absurd hi (Nat.not_lt_zero _)) (by decide) 0 rfl rfl).mono ?_
  rintro e w10 ⟨c2, rfl, h10⟩
  clear h9
  go_wp2_with fail
  refine (own_opened (R := [[97], []]) h10 6 rfl rfl (by decide) ((i3.fail 0).crash []).good).mono ?_
  rintro e w11 ⟨j3, v3, D6, rfl, i6, -, h11⟩
  clear h10
  obtain ⟨ao3, cap3, rfl⟩ := strs_form (h11.strs 8 rfl).1
  go_wp2_with fail
  refine (jsame_any ao3 (some ⟨w11.heap.size, 0, none⟩) cap3 2 [[97], []] [[97], []] _ ((h11.alloc _).strsAt 8 rfl).1 (strs_of_cells (heap_alloc_new w11 (.cells #[.string ⟨#[97]⟩, .string ⟨#[]⟩] 9)) rfl) (by decide) (by decide)).mono ?_
  rintro e w12 ⟨rfl, n1, rfl⟩
  rw [decide_eq_true rfl]
  have h12 := (h11.alloc (.cells #[.string ⟨#[97]⟩, .string ⟨#[]⟩] 9)).drewN n1
  clear h11
  generalize (w11.alloc (.cells #[.string ⟨#[97]⟩, .string ⟨#[]⟩] 9)).drewN n1 = W at h12 ⊢
  go_wp2_with fail
  refine (jsame_any ao2 (some ⟨W.heap.size, 0, none⟩) cap2 2 [[97], []] [[97], []] _ ((h12.alloc _).strsAt 5 rfl).1 (strs_of_cells (heap_alloc_new W (.cells #[.string ⟨#[97]⟩, .string ⟨#[]⟩] 9)) rfl) (by decide) (by decide)).mono ?_
  rintro e w13 ⟨rfl, n2, rfl⟩
  rw [decide_eq_true rfl]
  have h13 := (h12.alloc (.cells #[.string ⟨#[97]⟩, .string ⟨#[]⟩] 9)).drewN n2
  clear h12
  go_wp2_with fail
  go_ret
  exact ⟨rfl, h13.frm⟩
end Go.Proofs.Ytehdjajeonemoaa
