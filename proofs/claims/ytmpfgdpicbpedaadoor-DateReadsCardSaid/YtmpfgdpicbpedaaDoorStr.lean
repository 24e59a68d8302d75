/-
  Digits: what the code of both sides does. Conditions: the numbers lie within their ranges; the package variables read as the text lays them.
-/
import Derived.Test.YtmpfgdpicbpedaaDoorNum3
import Derived.Test.YtmpfgdpicbpedaaDoorTxt
import Derived.Deep.OwnRows
namespace Go.Proofs.YtmpfgdpicbpedaaDoor
open Go.RowKit

def strV (r : List UInt8) : Value := .string ⟨r.toArray⟩

theorem conv_one (w : World) (c : UInt8) : (convert 48 9 (.slice (some ⟨w.heap.size, 0, none⟩) 1 1)).run Tryd.prog (w.alloc (.cells #[.int .u8 c.toNat] 5)) = .ok (.string ⟨#[c]⟩) (w.alloc (.cells #[.int .u8 c.toNat] 5)) := by
  have hb : Bts (w.alloc (.cells #[.int .u8 c.toNat] 5)) 5 (.slice (some ⟨w.heap.size, 0, none⟩) 1 1) [c] :=
    ⟨rfl, .inr ⟨w.heap.size, 1, _, rfl, Nat.zero_le _, heap_alloc_new w _, Nat.le_refl _, by unfold maxLen; omega, rfl, rfl⟩⟩
  have := run_bytes_string (P := Tryd.prog) hb 48 9 Tryd.underlying48 Tryd.underlying5 Tryd.underlying9 (some ⟨w.heap.size, 0, none⟩) 1 1 0 (by simp) (fun _ => ⟨_, _, _, rfl, rfl⟩)
  rw [this]
  rfl

theorem pad_len : ∀ (x n k : Nat), n + k ≤ x → (pad n k).length ≤ n + k := by
  intro x
  induction x with
  | zero =>
    intro n k h
    rw [show n = 0 by omega, show k = 0 by omega, pad_zero]
    exact Nat.le_refl _
  | succ x ih =>
    intro n k h
    by_cases hz : n = 0 ∧ k = 0
    · rw [hz.1, hz.2, pad_zero]; exact Nat.le_refl _
    · have := ih (n / 10) (k - 1) (by omega)
      rw [pad_step n k hz, List.length_append]
      simp only [List.length_cons, List.length_nil]
      omega

set_option maxRecDepth 100000 in
set_option maxHeartbeats 1000000 in
theorem rdigits_any (n k : Nat) (hn : n ≤ 100000) (hk : k ≤ 100) (w : World) : Calls Tryd.prog 49 #[.int .i64 n, .int .i64 k] w fun e w' => e = .returned (strV (pad n k)) ∧ Frm (fun _ => False) w w' := by
  go_enter Tryd.func49, Tryd.ntmps49
  go_wp2_with fail
  go_loopw [0, 1, 5] (fun sa sb ss wr => ∃ (a : Nat) (b : Int) (l : List UInt8), sa = .int .i64 a ∧ sb = .int .i64 b ∧ ss = strV l ∧ a ≤ 100000 ∧ b ≤ 100 ∧ -100000 ≤ b - a ∧ Hid (pad a b.toNat ++ l = pad n k) ∧ Frm (fun _ => False) w wr) (fun sa sb _ _ => (intOf sa).toNat + (intOf sb).toNat)
  case atStart => exact ⟨n, k, [], rfl, rfl, rfl, hn, by omega, by omega, by show pad n (k : Int).toNat ++ [] = _; rw [Int.toNat_natCast, List.append_nil], Frm.refl _ _⟩
  case round =>
    obtain ⟨a, b, l, rfl, rfl, rfl, ha, hb, hba, hp, hf⟩ := hrel
    unfold strV
    obtain ⟨S, hS⟩ : ∃ S : ByteArray, (⟨l.toArray⟩ : ByteArray) = S := ⟨_, rfl⟩
    rw [hS]
    by_cases hz : 0 < a ∨ 0 < b
    · have hcv := conv_one wr (dig a)
      rw [dig_nat, show ((48 + a % 10 : Nat) : Int) = 48 + (a : Int) % 10 by omega] at hcv
      have a0 : (0 : Int) ≤ a := by omega
      have hst : pad a b.toNat = pad (a / 10) (b.toNat - 1) ++ [dig a] := pad_step a b.toNat (by omega)
      have hnx : pad (a / 10) (b - 1).toNat ++ (dig a :: l) = pad n k := by
        rw [show (b - 1).toNat = b.toNat - 1 by omega, ← hp, hst, List.append_assoc]
        rfl
      have hcat : (⟨#[dig a]⟩ : ByteArray) ++ S = ⟨(dig a :: l).toArray⟩ := by
        rw [← hS]
        apply WideShapes.bytes_inj
        simp
      have hSs : S.size ≤ 100100 := by
        have h1 := congrArg List.length hp
        have h2 := pad_len _ n k (Nat.le_refl _)
        have h3 : S.size = l.length := by rw [← hS]; show l.toArray.size = _; simp
        rw [List.length_append] at h1
        omega
      have Hnx := Lib.hid hnx
      have Hcat := Lib.hid hcat
      clear hst hnx hcat hS hp
      by_cases h1 : 0 < a
      · have h1' : (0 : Int) < a := by omega
        have hf1 := hf.alloc (.cells #[.int .u8 (48 + (a : Int) % 10)] 5)
        clear hz h1
        go_wp2_with fail
        go_roundw
        case rel => exact ⟨a / 10, b - 1, dig a :: l, by go_num, rfl, by rw [Hcat.out], by omega, by omega, by omega, Hnx.out, hf1⟩
        case measure => simp [intOf]; omega
      · obtain rfl : a = 0 := by omega
        have h2 : 0 < b := by omega
        clear hcv
        have hcv := conv_one wr (dig 0)
        rw [show ((dig 0).toNat : Int) = 48 from rfl] at hcv
        have hf1 := hf.alloc (.cells #[.int .u8 48] 5)
        clear hz h1 a0
        go_wp2_with fail
        go_roundw
        case rel => exact ⟨0, b - 1, dig 0 :: l, by go_num, rfl, by rw [Hcat.out], by omega, by omega, by omega, Hnx.out, hf1⟩
        case measure => simp [intOf]; omega
    · have h1 : ¬ ((0 : Int) < a) := by omega
      have h2 : ¬ (0 < b) := by omega
      have hfin : S = ⟨(pad n k).toArray⟩ := by rw [← hp, show a = 0 by omega, show b.toNat = 0 by omega, pad_zero, ← hS]; rfl
      have Hfin := Lib.hid hfin
      clear hz hfin hp hS
      go_wp2_with fail
      go_ret
      exact ⟨by rw [Hfin.out]; rfl, hf⟩

theorem pad_rep : ∀ (x n k : Nat), n + k ≤ x → pad n k = List.replicate (k - (pad n 0).length) 48 ++ pad n 0 := by
  intro x
  induction x with
  | zero =>
    intro n k h
    rw [show n = 0 by omega, show k = 0 by omega, pad_zero]
    rfl
  | succ x ih =>
    intro n k h
    by_cases hz : n = 0 ∧ k = 0
    · rw [hz.1, hz.2, pad_zero]; rfl
    · have e := ih (n / 10) (k - 1) (by omega)
      rw [pad_step n k hz, e]
      by_cases hn : n = 0
      · subst hn
        obtain ⟨j, rfl⟩ : ∃ j, k = j + 1 := ⟨k - 1, by omega⟩
        rw [Nat.zero_div, pad_zero, Nat.add_sub_cancel, List.length_nil, Nat.sub_zero, Nat.sub_zero, List.append_nil, List.append_nil, List.replicate_succ']
        rfl
      · rw [pad_step n 0 (by omega), List.length_append, List.append_assoc]
        simp only [List.length_cons, List.length_nil, Nat.zero_sub]
        rw [show k - ((pad (n / 10) 0).length + (0 + 1)) = k - 1 - (pad (n / 10) 0).length by omega]
theorem pad_padded (n k : Nat) (hk : 1 ≤ k) : pad n k = List.replicate (k - (pad n 1).length) 48 ++ pad n 1 := by
  have e := pad_rep _ n k (Nat.le_refl _)
  have e1 := pad_rep _ n 1 (Nat.le_refl _)
  by_cases hn : n = 0
  · subst hn
    rw [pad_zero] at e e1
    rw [e, e1]
    obtain ⟨j, rfl⟩ : ∃ j, k = j + 1 := ⟨k - 1, by omega⟩
    simp [List.replicate_succ']
  · have hp : 1 ≤ (pad n 0).length := by rw [pad_step n 0 (by omega), List.length_append]; simp
    rw [show 1 - (pad n 0).length = 0 by omega] at e1
    rw [e1, e]
    rfl
theorem pad_dec (n : Nat) : Lib.decDigits n = pad n 1 := by
  induction n using Nat.strongRecOn with
  | _ n ih =>
    rw [Lib.decDigits, pad_step n 1 (by omega)]
    by_cases h : n < 10
    · rw [dif_pos h, show n / 10 = 0 by omega, pad_zero]
      have : dig n = UInt8.ofNat (48 + n) := by unfold dig; rw [Nat.mod_eq_of_lt h]
      rw [this]
      rfl
    · rw [dif_neg h, ih (n / 10) (by omega), pad_step (n / 10) 1 (by omega), pad_step (n / 10) 0 (by omega)]
      rfl
theorem repeat_rep (c : Nat) : Lib.repeatL [48] c = List.replicate c 48 := by
  induction c with
  | zero => rfl
  | succ c ih => rw [Lib.repeatL, ih, List.replicate_succ]; rfl
theorem frm_grow (w : World) (k : Nat) (os : Array Obj) : Frm (fun _ => False) w (Sort.grow (w.drewN k) os) := by
  refine ⟨rfl, rfl, rfl, ?_, fun i hi _ => ?_⟩
  · show w.heap.size ≤ (w.heap ++ os).size
    rw [Array.size_append]
    omega
  · show (w.heap ++ os)[i]? = w.heap[i]?
    rw [Array.getElem?_append_left hi]
theorem Tabs.frm {w w' : World} (h : Tabs w) (hf : Frm (fun _ => False) w w') : Tabs w' := by
  refine ⟨fun i hi => hf.cell (h.len i hi) (fun h => h), ?_⟩
  have hp := h.pow
  unfold Lib.TabIs at hp ⊢
  rw [← hp]
  unfold World.var?
  cases hg : Tryd.prog.globalNamed "internal/strconv.uint64pow10" with
  | none => rfl
  | some g =>
    simp only [Option.bind_some]
    rcases Nat.lt_or_ge g w.heap.size with hlt | hge
    · rw [hf.block g hlt (fun h => h)]
    · exfalso
      unfold World.var? at hp
      rw [hg] at hp
      simp [Array.getElem?_eq_none hge] at hp

set_option maxRecDepth 100000 in
set_option maxHeartbeats 1000000 in
theorem padded_any (n k : Nat) (hn : n ≤ 100000) (hk : 1 ≤ k) (hk2 : k ≤ 100) (w : World) (hT : Tabs w) : Calls Tryd.prog 57 #[.int .i64 n, .int .i64 k] w fun e w' => e = .returned (strV (pad n k)) ∧ Frm (fun _ => False) w w' := by
  have hi := Tryd.strconv_Itoa n (by omega) (by omega) w hT.pow
  rw [show Lib.itoa (n : Int) = pad n 1 by unfold Lib.itoa; rw [if_neg (by omega), Int.toNat_natCast, pad_dec]] at hi
  have hpp := pad_padded n k hk
  have hl : (pad n 1).length ≤ 100001 := by have := pad_len _ n 1 (Nat.le_refl _); omega
  obtain ⟨S, hS⟩ : ∃ S : ByteArray, (⟨(pad n 1).toArray⟩ : ByteArray) = S := ⟨_, rfl⟩
  have hSs : S.size = (pad n 1).length := by rw [← hS]; show (pad n 1).toArray.size = _; simp
  rw [hS] at hi
  obtain ⟨c, hc⟩ : ∃ c : Nat, max ((k : Int) - S.size) 0 = (c : Int) := ⟨k - S.size, by omega⟩
  have hc2 : c = k - (pad n 1).length := by omega
  have hc3 : c ≤ 100 := by omega
  have hfin : (⟨(Lib.repeatL [48] c).toArray⟩ : ByteArray) ++ S = ⟨(pad n k).toArray⟩ := by
    rw [hpp, repeat_rep, hc2, ← hS]
    apply WideShapes.bytes_inj
    simp
  have hsz : ((⟨(Lib.repeatL [48] c).toArray⟩ : ByteArray)).size = c := by
    show (Lib.repeatL [48] c).toArray.size = c
    rw [repeat_rep]
    simp
  have hS2 : S.size ≤ 100001 := by omega
  have Hi := Lib.hid hi
  have Hfin := Lib.hid hfin
  have Hsz := Lib.hid hsz
  clear hi hpp hl hS hSs hc2 hfin hsz
  go_enter Tryd.func57, Tryd.ntmps57
  go_wp2_with fail
  refine Hi.out.mono ?_
  rintro e w1 ⟨rfl, j, os, rfl⟩
  have f1 := frm_grow w j os
  obtain ⟨w1, hw1⟩ : ∃ w1, w1 = Sort.grow (w.drewN j) os := ⟨_, rfl⟩
  rw [← hw1] at f1 ⊢
  clear hw1
  go_wp2_with fail
  refine (Tryd.strings_Repeat ⟨#[48]⟩ c w1 (by omega) (by show 1 * c ≤ _; omega)).mono ?_
  rintro e w2 ⟨rfl, b2⟩
  have f2 := f1.trans (Frm.of_below b2)
  rw [show (⟨#[48]⟩ : ByteArray).data.toList = [48] from rfl]
  obtain ⟨X, hX⟩ : ∃ X : ByteArray, X = ⟨(Lib.repeatL [48] c).toArray⟩ := ⟨_, rfl⟩
  rw [← hX] at Hfin Hsz ⊢
  have hXs : X.size ≤ 100 := by have := Hsz.out; omega
  clear hX b2 f1
  go_wp2_with fail
  go_ret
  exact ⟨by rw [Hfin.out]; rfl, f2⟩

/-! ### Digits that are read -/
theorem dgs_full (L : List UInt8) (k j : Nat) (hj : j ≤ k) (hj2 : j ≤ L.length) (ha : (L.take j).all digB = true) (hs : j = k ∨ j = L.length ∨ ∃ h : j < L.length, digB L[j] = false) : dgs L k = L.take j := by
  have e : L.take k = L.take j ++ (L.take k).drop j := by
    have h1 := List.take_append_drop j (L.take k)
    rw [List.take_take, Nat.min_eq_left hj] at h1
    exact h1.symm
  have hall : ∀ a ∈ L.take j, digB a = true := List.all_eq_true.1 ha
  unfold dgs
  rw [e, List.takeWhile_append_of_pos hall]
  have hn : ((L.take k).drop j).takeWhile digB = [] := by
    rcases hs with h | h | ⟨h, hd⟩
    · rw [h, List.drop_of_length_le (by simp; omega)]; rfl
    · rw [List.drop_of_length_le (by simp; omega)]; rfl
    · by_cases hjk : j < k
      · rw [List.drop_eq_getElem_cons (by simp; omega), List.takeWhile_cons]
        rw [List.getElem_take, hd]
        rfl
      · rw [List.drop_of_length_le (by simp; omega)]; rfl
  rw [hn, List.append_nil]
theorem val_snoc (l : List UInt8) (c : UInt8) : val (l ++ [c]) = val l * 10 + (c.toNat - 48) := by simp [val]
theorem val_lt : ∀ (l : List UInt8), l.all digB = true → val l < 10 ^ l.length := by
  have aux : ∀ (l : List UInt8) (n k : Nat), l.all digB = true → n < 10 ^ k → l.foldl (fun v c => v * 10 + (c.toNat - 48)) n < 10 ^ (k + l.length) := by
    intro l
    induction l with
    | nil => intro n k _ h; exact h
    | cons c l ih =>
      intro n k ha h
      rw [List.all_cons, Bool.and_eq_true] at ha
      have hc : c.toNat ≤ 57 := by
        have := ha.1
        unfold digB at this
        rw [decide_eq_true_iff] at this
        exact this.2
      have := ih (n * 10 + (c.toNat - 48)) (k + 1) ha.2 (by rw [Nat.pow_succ]; omega)
      rw [List.foldl_cons, List.length_cons, show k + (l.length + 1) = k + 1 + l.length by omega]
      exact this
  intro l ha
  have := aux l 0 0 ha (by decide)
  rw [Nat.zero_add] at this
  exact this
theorem all_snoc {L : List UInt8} {j : Nat} (h : j < L.length) (ha : (L.take j).all digB = true) (hd : digB L[j] = true) : (L.take (j + 1)).all digB = true ∧ val (L.take (j + 1)) = val (L.take j) * 10 + (L[j].toNat - 48) := by
  rw [List.take_succ_eq_append_getElem h, List.all_append, ha, val_snoc]
  exact ⟨by simp [hd], rfl⟩

set_option maxRecDepth 100000 in
set_option maxHeartbeats 1000000 in
theorem digits_any (s : ByteArray) (k : Nat) (hs : s.size ≤ 9223372036854775807) (hk : k ≤ 4) (w : World) : Calls Tryd.prog 51 #[.string s, .int .i64 k] w fun e w' => e = .returned (.tuple #[.int .i64 (val (dgs s.data.toList k)), .int .i64 (dgs s.data.toList k).length]) ∧ w = w' := by
  have hl := size_toList s
  go_enter Tryd.func51, Tryd.ntmps51
  go_wp2_with fail
  go_loop [4, 5] (fun v i => ∃ j : Nat, i = .int .i64 j ∧ v = .int .i64 (val (s.data.toList.take j)) ∧ j ≤ k ∧ j ≤ s.size ∧ (s.data.toList.take j).all digB = true) (fun _ i => 4 - (intOf i).toNat)
  case atStart => exact ⟨0, rfl, rfl, Nat.zero_le _, Nat.zero_le _, rfl⟩
  case round =>
    obtain ⟨j, rfl, rfl, hjk, hjs, hall⟩ := hrel
    have hv := val_lt _ hall
    rw [List.length_take] at hv
    have hv4 : val (s.data.toList.take j) ≤ 10000 := by
      have : (10 : Nat) ^ (min j s.data.toList.length) ≤ 10 ^ 4 := Nat.pow_le_pow_right (by decide) (by omega)
      have e : (10 : Nat) ^ 4 = 10000 := by decide
      omega
    have Hall := Lib.hid hall
    have Hl := Lib.hid hl
    clear hall hv hl
    by_cases hlt : j < k ∧ j < s.size
    · obtain ⟨j1, j2⟩ := hlt
      have j3 : j < s.data.toList.length := by have := Hl.out; omega
      have hge : s.data.toList[j] = s[j] := rfl
      by_cases hd : 48 ≤ s[j].toNat ∧ s[j].toNat ≤ 57
      · obtain ⟨d1, d2⟩ := hd
        obtain ⟨a1, a2⟩ := all_snoc j3 Hall.out (by rw [hge]; unfold digB; exact decide_eq_true ⟨d1, d2⟩)
        rw [hge] at a2
        have A1 := Lib.hid a1
        have A2 := Lib.hid a2
        have d3 : (48 : Int) ≤ s[j].toNat := by omega
        have d4 : (s[j].toNat : Int) ≤ 57 := by omega
        clear a1 a2 hge
        go_wp2_with fail
        go_round
        case rel => exact ⟨j + 1, by go_num, by rw [A2.out]; congr 1; omega, by omega, by omega, A1.out⟩
        case measure => simp [intOf]; omega
      · have hfin := dgs_full s.data.toList k j (by omega) (by omega) Hall.out (.inr (.inr ⟨j3, by rw [hge]; unfold digB; exact decide_eq_false hd⟩))
        have hlen : (s.data.toList.take j).length = j := by rw [List.length_take]; omega
        have Hfin := Lib.hid hfin
        have Hlen := Lib.hid hlen
        clear hfin hge hlen
        go_wp2_with fail
        all_goals first | (exfalso; omega) | go_ret2
        all_goals exact ⟨by rw [Hfin.out, Hlen.out]; rfl, rfl⟩
    · have hfin := dgs_full s.data.toList k j (by omega) (by have := Hl.out; omega) Hall.out (by have := Hl.out; omega)
      have hlen : (s.data.toList.take j).length = j := by rw [List.length_take]; have := Hl.out; omega
      have Hfin := Lib.hid hfin
      have Hlen := Lib.hid hlen
      have t1 : ¬ ((j : Int) < min (s.size : Int) (k : Int)) := by omega
      clear hfin hlen hlt
      go_wp2_with fail
      go_ret2
      exact ⟨by rw [Hfin.out, Hlen.out]; rfl, rfl⟩

/-- What the reference's number returns. -/
def nbR (s : ByteArray) : Value := if s.data.toList.all digB = true then .tuple #[.int .i64 (val s.data.toList), .bool (decide (0 < s.size))] else .tuple #[.int .i64 0, .bool false]
theorem nbR_no {s : ByteArray} (h : s.data.toList.all digB = false) : nbR s = .tuple #[.int .i64 0, .bool false] := by unfold nbR; rw [h]; rfl
theorem nbR_yes {s : ByteArray} (h : s.data.toList.all digB = true) (b : Bool) (hb : decide (0 < s.size) = b) : nbR s = .tuple #[.int .i64 (val s.data.toList), .bool b] := by unfold nbR; rw [h, hb]; rfl

set_option maxRecDepth 100000 in
set_option maxHeartbeats 1000000 in
/-- The reference's number, of digits alone. -/
theorem rnumber_any (s : ByteArray) (hs : s.size ≤ 4) (w : World) : Calls Tryd.prog 52 #[.string s] w fun e w' => e = .returned (nbR s) ∧ w = w' := by
  have hl := size_toList s
  go_enter Tryd.func52, Tryd.ntmps52
  go_wp2_with fail
  go_loop [4, 5] (fun v i => ∃ j : Nat, i = .int .i64 j ∧ v = .int .i64 (val (s.data.toList.take j)) ∧ j ≤ s.size ∧ (s.data.toList.take j).all digB = true) (fun _ i => 4 - (intOf i).toNat)
  case atStart => exact ⟨0, rfl, rfl, Nat.zero_le _, rfl⟩
  case round =>
    obtain ⟨j, rfl, rfl, hjs, hall⟩ := hrel
    have hv := val_lt _ hall
    rw [List.length_take] at hv
    have hv4 : val (s.data.toList.take j) ≤ 10000 := by
      have : (10 : Nat) ^ (min j s.data.toList.length) ≤ 10 ^ 4 := Nat.pow_le_pow_right (by decide) (by omega)
      have e : (10 : Nat) ^ 4 = 10000 := by decide
      omega
    have Hall := Lib.hid hall
    have Hl := Lib.hid hl
    clear hall hv hl
    by_cases j2 : j < s.size
    · have j3 : j < s.data.toList.length := by have := Hl.out; omega
      have hge : s.data.toList[j] = s[j] := rfl
      by_cases hd : 48 ≤ s[j].toNat ∧ s[j].toNat ≤ 57
      · obtain ⟨d1, d2⟩ := hd
        obtain ⟨a1, a2⟩ := all_snoc j3 Hall.out (by rw [hge]; unfold digB; exact decide_eq_true ⟨d1, d2⟩)
        rw [hge] at a2
        have A1 := Lib.hid a1
        have A2 := Lib.hid a2
        have d3 : (48 : Int) ≤ s[j].toNat := by omega
        have d4 : (s[j].toNat : Int) ≤ 57 := by omega
        clear a1 a2 hge
        go_wp2_with fail
        go_round
        case rel => exact ⟨j + 1, by go_num, by rw [A2.out]; congr 1; omega, by omega, A1.out⟩
        case measure => simp [intOf]; omega
      · have hno : s.data.toList.all digB = false := by
          rw [Bool.eq_false_iff]
          intro h
          have := List.all_eq_true.1 h s.data.toList[j] (List.getElem_mem _)
          rw [hge] at this
          unfold digB at this
          exact hd (of_decide_eq_true this)
        have Hno := Lib.hid hno
        clear hno hge
        go_wp2_with fail
        all_goals first | (exfalso; omega) | go_ret2
        all_goals exact ⟨by rw [nbR_no Hno.out]; rfl, rfl⟩
    · have hfull : s.data.toList.take j = s.data.toList := List.take_of_length_le (by have := Hl.out; omega)
      have hyes : s.data.toList.all digB = true := by have := Hall.out; rw [hfull] at this; exact this
      have Hyes := Lib.hid hyes
      have Hfull := Lib.hid hfull
      clear hyes hfull
      have hcase : s.size = 0 ∨ 0 < s.size := by omega
      rcases hcase with h0 | h0
      · have t1 : ¬ ((0 : Int) < s.size) := by omega
        have H0 := Lib.hid h0
        clear h0
        go_wp2_with fail
        all_goals go_ret2
        all_goals exact ⟨by rw [nbR_yes Hyes.out false (by rw [H0.out]; rfl), Hfull.out]; rfl, rfl⟩
      · have t1 : (0 : Int) < s.size := by omega
        have t2 : decide ((s.size : Int) < 5) = true := by rw [decide_eq_true_iff]; omega
        go_wp2_with fail
        all_goals go_ret2
        all_goals exact ⟨by rw [nbR_yes Hyes.out true (decide_eq_true h0), Hfull.out]; rfl, rfl⟩

set_option maxHeartbeats 1000000 in
theorem plain_any (c : UInt8) (w : World) : Calls Tryd.prog 55 #[.int .u8 c.toNat] w fun e w' => e = .returned (.bool (plainB c)) ∧ w = w' := by
  have e1 : (c == 89) = decide (c.toNat = 89) := by rw [Bool.eq_iff_iff, beq_iff_eq, decide_eq_true_iff, ← UInt8.toNat_inj]; rfl
  have e2 : (c == 77) = decide (c.toNat = 77) := by rw [Bool.eq_iff_iff, beq_iff_eq, decide_eq_true_iff, ← UInt8.toNat_inj]; rfl
  have e3 : (c == 68) = decide (c.toNat = 68) := by rw [Bool.eq_iff_iff, beq_iff_eq, decide_eq_true_iff, ← UInt8.toNat_inj]; rfl
  have hp : plainB c = (decide (32 ≤ c.toNat ∧ c.toNat ≤ 126) && !decide (48 ≤ c.toNat ∧ c.toNat ≤ 57) && !decide (c.toNat = 89) && !decide (c.toNat = 77) && !decide (c.toNat = 68)) := by unfold plainB; rw [e1, e2, e3]
  rw [hp]
  clear hp e1 e2 e3
  have hn := c.toNat_lt
  generalize c.toNat = n at hn ⊢
  go_enter Tryd.func55, Tryd.ntmps55
  go_wp2_with fail
  all_goals go_ret
  all_goals exact ⟨ret_bool (by rw [Bool.eq_iff_iff]; simp; try omega), rfl⟩
end Go.Proofs.YtmpfgdpicbpedaaDoor
