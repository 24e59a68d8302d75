/-
  Mod, Where, Long, survive, repeated. Conditions: numbers within their kinds.
-/
import Derived.Test.YtehdjajeonemoaaRefCrash
namespace Go.Proofs.Ytehdjajeonemoaa
open Go.RowKit

theorem tmod_mod (n m : Int) : (n.tmod m + m) % m = n % m := by
  rw [Int.add_emod_right]
  have h := Int.tmod_add_mul_tdiv n m
  conv => rhs; rw [← h]
  rw [Int.add_mul_emod_self_left]
theorem tmod_lo (n m : Int) (hm : 0 < m) : -m < n.tmod m := Int.lt_tmod_of_pos n hm
theorem tmod_hi (n m : Int) (hm : 0 < m) : n.tmod m < m := Int.tmod_lt_of_pos n hm

theorem mod_any (n m : Int) (w : World) (hm : 0 < m) (hb : m ≤ 1099511627776) (_hn : -9223372036854775808 ≤ n) (_hn2 : n ≤ 9223372036854775807) :
    Calls Try.prog 28 #[.int .i64 n, .int .i64 m] w fun e w' => e = .returned (.int .i64 (n % m)) ∧ w = w' := by
  have h1 := tmod_lo n m hm
  have h2 := tmod_hi n m hm
  have h3 := tmod_mod n m
  have H3 := Lib.hid h3
  clear h3
  have h4 : 1 ≤ m := by omega
  have h5 : 0 ≤ n.tmod m + m := by omega
  have h7 : 0 ≤ (n.tmod m + m) % m := Int.emod_nonneg _ (by omega)
  have h8 : (n.tmod m + m) % m < m := Int.emod_lt_of_pos _ (by omega)
  have hz : (m == 0) = false := by simp; omega
  go_enter Try.func28, Try.ntmps28
  go_wp2
  go_ret
  refine ⟨?_, rfl⟩
  exact congrArg (fun x => Ending.returned (.int .i64 x)) H3.out

def whereI (off : Int) : Int := if off < 0 ∨ off > 16777216 then off else off % 300
def actV (kind off n : Int) (t : ByteArray) : Value := .agg #[.int .i64 kind, .int .i64 off, .int .i64 n, .string t]

theorem where_any (kind off n : Int) (t : ByteArray) (w : World) (h1 : -9223372036854775808 ≤ off) (h2 : off ≤ 9223372036854775807) :
    Calls Try.prog 49 #[.agg #[.int .i64 kind, .int .i64 off, .int .i64 n, .string t]] w fun e w' => e = .returned (.int .i64 (whereI off)) ∧ Frm (fun _ => False) w w' := by
  unfold whereI
  by_cases h : off < 0
  · rw [if_pos (Or.inl h)]
    go_enter Try.func49, Try.ntmps49
    go_wp2
    go_ret
    exact ⟨rfl, (Frm.refl _ _).alloc _⟩
  · by_cases h3 : 16777216 < off
    · rw [if_pos (Or.inr h3)]
      go_enter Try.func49, Try.ntmps49
      go_wp2
      go_ret
      exact ⟨rfl, (Frm.refl _ _).alloc _⟩
    · rw [if_neg (by omega)]
      have h4 : 0 ≤ off := by omega
      go_enter Try.func49, Try.ntmps49
      go_wp2_with fail
      refine (mod_any off 300 _ (by omega) (by omega) h1 h2).mono ?_
      rintro e w' ⟨rfl, rfl⟩
      go_wp2
      go_ret
      exact ⟨rfl, (Frm.refl _ _).alloc _⟩

def longF : Nat → List UInt8 → List UInt8 → Nat → List UInt8
  | 0, s, _, _ => s
  | f + 1, s, t, m => if 0 < s.length ∧ s.length < m then longF f (s ++ t) t m else s
def longL (n : Int) (t : List UInt8) : List UInt8 := (longF 200 t t (n % 200).toNat).take 200
theorem longL_length (n : Int) (t : List UInt8) : (longL n t).length ≤ 200 := List.length_take_le _ _

theorem longF_done (f : Nat) (s t : List UInt8) (m : Nat) (h : ¬ (0 < s.length ∧ s.length < m)) : longF f s t m = s := by
  cases f with
  | zero => rfl
  | succ f => rw [longF, if_neg h]

set_option maxRecDepth 100000 in
theorem long_any (kind off n : Int) (t : ByteArray) (w : World) (h1 : -9223372036854775808 ≤ n) (h2 : n ≤ 9223372036854775807) (ht : t.size ≤ 9223372036854775807) :
    Calls Try.prog 51 #[.agg #[.int .i64 kind, .int .i64 off, .int .i64 n, .string t]] w fun e w' => e = .returned (strV (longL n t.data.toList)) ∧ Frm (fun _ => False) w w' := by
  have hF0 : Frm (fun _ => False) w (w.alloc (.cells #[.int .i64 kind, .int .i64 off, .int .i64 n, .string t] 33)) := (Frm.refl _ _).alloc _
  have htl := size_toList t
  have Htl := Lib.hid htl
  clear htl
  have hm0 : 0 ≤ n % 200 := Int.emod_nonneg _ (by omega)
  have hm1 : n % 200 < 200 := Int.emod_lt_of_pos _ (by omega)
  go_enter Try.func51, Try.ntmps51
  go_wp2_with fail
  go_loopw [3] (fun sv wr => ∃ (f : Nat) (s : ByteArray), sv = .string s ∧ (s.size < 200 + t.size ∨ s = t) ∧ t.size ≤ s.size ∧ (0 < s.size → 0 < t.size) ∧ (s.size < 200 → 200 ≤ f + s.size) ∧ Hid (longF f s.data.toList t.data.toList (n % 200).toNat = longF 200 t.data.toList t.data.toList (n % 200).toNat) ∧ Frm (fun _ => False) w wr ∧ wr.cell? ⟨w.heap.size, 3, none⟩ = some (.string t) ∧ wr.cell? ⟨w.heap.size, 2, none⟩ = some (.int .i64 n)) (fun sv _ => 400 - strSize sv)
  case atStart =>
    exact ⟨200, t, rfl, .inr rfl, Nat.le_refl _, fun h => h, by omega, rfl, hF0, by rw [World.cell?_alloc_new]; rfl, by rw [World.cell?_alloc_new]; rfl⟩
  case round =>
    obtain ⟨f, s, rfl, hs1, hs3, hs2, hf, hlong, hF, c3, c2⟩ := hrel
    have hsl := size_toList s
    have Hsl := Lib.hid hsl
    clear hsl hF0
    by_cases h0 : 0 < s.size
    · by_cases h3 : (s.size : Int) < n % 200
      · have hfin : 1 ≤ f := by omega
        have hsum : s.size + t.size ≤ 400 := by omega
        go_wp2_with (go_at_call 28; refine (mod_any n 200 _ (by omega) (by omega) h1 h2).mono ?_; rintro e w' ⟨rfl, rfl⟩)
        go_roundw
        case rel =>
          obtain ⟨f', rfl⟩ : ∃ f', f = f' + 1 := ⟨f - 1, by omega⟩
          refine ⟨f', s ++ t, rfl, .inl (by rw [ByteArray.size_append]; omega), by rw [ByteArray.size_append]; omega, fun _ => hs2 h0, by rw [ByteArray.size_append]; have := hs2 h0; omega, ?_, hF, c3, c2⟩
          show _ = _
          rw [← (show _ = _ from hlong), app_toList, longF, if_pos (by rw [Hsl.out]; omega)]
        case measure => have := hs2 h0; simp only [strSize, ByteArray.size_append]; omega
      · have hres : longL n t.data.toList = s.data.toList.take 200 := by
          unfold longL
          rw [← (show _ = _ from hlong), longF_done _ _ _ _ (by rw [Hsl.out]; omega)]
        have Hres := Lib.hid hres
        clear hres hlong
        go_wp2_with (go_at_call 28; refine (mod_any n 200 _ (by omega) (by omega) h1 h2).mono ?_; rintro e w' ⟨rfl, rfl⟩)
        all_goals
          go_ret
          refine ⟨congrArg Ending.returned ((strV_of _).trans (strV_inj ?_)), hF⟩
          rw [Hres.out]
          first
            | rw [Lib.extract_data]; rfl
            | (rw [List.take_of_length_le]; rw [Hsl.out]; omega)
    · have hres : longL n t.data.toList = s.data.toList.take 200 := by
        unfold longL
        rw [← (show _ = _ from hlong), longF_done _ _ _ _ (by rw [Hsl.out]; omega)]
      have Hres := Lib.hid hres
      clear hres hlong
      go_wp2_with fail
      all_goals
        go_ret
        refine ⟨congrArg Ending.returned ((strV_of _).trans (strV_inj ?_)), hF⟩
        rw [Hres.out]
        first
          | rw [Lib.extract_data]; rfl
          | (rw [List.take_of_length_le]; rw [Hsl.out]; omega)

def survQ (n : Int) : List Int := [n, n.tdiv 2, n.tdiv 3, n.tdiv 5, n.tdiv 7].take (n % 6).toNat

theorem tdiv_bd (n m : Int) (hm : 1 ≤ m) (h1 : -9223372036854775808 ≤ n) (h2 : n ≤ 9223372036854775807) : -9223372036854775808 ≤ n.tdiv m ∧ n.tdiv m ≤ 9223372036854775807 := by
  by_cases h : 0 ≤ n
  · rw [Int.tdiv_eq_ediv_of_nonneg h]
    have a := Int.ediv_nonneg h (show 0 ≤ m by omega)
    have b := Int.ediv_le_self m h
    omega
  · have e : n.tdiv m = -((-n).tdiv m) := by rw [Int.neg_tdiv]; omega
    rw [Int.tdiv_eq_ediv_of_nonneg (show 0 ≤ -n by omega)] at e
    have a := Int.ediv_nonneg (show 0 ≤ -n by omega) (show 0 ≤ m by omega)
    have b := Int.ediv_le_self m (show 0 ≤ -n by omega)
    omega

set_option maxRecDepth 100000 in
theorem survive_any (n : Int) (w : World) (h1 : -9223372036854775808 ≤ n) (h2 : n ≤ 9223372036854775807) :
    Calls Try.prog 31 #[.int .i64 n] w fun e w' => ∃ aq capq, e = .returned (.slice aq (survQ n).length capq) ∧ IntsAt w' aq (survQ n) ∧ Frm (fun _ => False) w w' := by
  have hm0 : 0 ≤ n % 6 := Int.emod_nonneg _ (by omega)
  have hm1 : n % 6 < 6 := Int.emod_lt_of_pos _ (by omega)
  have b2 := tdiv_bd n 2 (by omega) h1 h2
  have b3 := tdiv_bd n 3 (by omega) h1 h2
  have b5 := tdiv_bd n 5 (by omega) h1 h2
  have b7 := tdiv_bd n 7 (by omega) h1 h2
  have B := Lib.hid (And.intro b2 (And.intro b3 (And.intro b5 b7)))
  have b2a := b2.1
  have b2b := b2.2
  have b3a := b3.1
  have b3b := b3.2
  have b5a := b5.1
  have b5b := b5.2
  have b7a := b7.1
  have b7b := b7.2
  clear b2 b3 b5 b7
  go_enter Try.func31, Try.ntmps31
  go_wp2_with (go_at_call 28; refine (mod_any n 6 _ (by omega) (by omega) h1 h2).mono ?_; rintro e w' ⟨rfl, rfl⟩)
  go_ret
  obtain ⟨b2, b3, b5, b7⟩ := B.out
  have hlen : (survQ n).length = (n % 6).toNat := by unfold survQ; rw [List.length_take]; simp; omega
  refine ⟨some ⟨w.heap.size, 0, none⟩, 5, by rw [hlen]; rfl, ?_, (Frm.refl _ _).alloc _⟩
  intro i hi
  rw [hlen] at hi
  refine ⟨w.heap.size, 0, rfl, ?_⟩
  rw [Nat.zero_add, World.cell?_alloc_new]
  have e : (survQ n).getD i 0 = [n, n.tdiv 2, n.tdiv 3, n.tdiv 5, n.tdiv 7].getD i 0 := by
    unfold survQ
    simp only [List.getD]
    rw [List.getElem?_take_of_lt hi]
  rw [e]
  have hi5 : i < 5 := by omega
  match i, hi5 with
  | 0, _ => exact ⟨rfl, h1, h2⟩
  | 1, _ => exact ⟨rfl, b2⟩
  | 2, _ => exact ⟨rfl, b3⟩
  | 3, _ => exact ⟨rfl, b5⟩
  | 4, _ => exact ⟨rfl, b7⟩

theorem Bts.own {w : World} {e : TypeId} {ao : Option Addr} {n cap : Nat} {l : List UInt8} (h : Bts w e (.slice ao n cap) l) (hn : l.length = n) : w.ownsRow 0 e 1 (.slice ao n cap) n (l.map bv) := by subst hn; exact h
theorem Bts.set {w : World} {e : TypeId} {g n cap : Nat} {l : List UInt8} (h : Bts w e (.slice (some ⟨g, 0, none⟩) n cap) l) (hn : l.length = n) (j : Nat) (c : UInt8) : Bts (w.setCell ⟨g, j, none⟩ (bv c)) e (.slice (some ⟨g, 0, none⟩) n cap) (l.set j c) := by
  subst hn
  unfold Bts
  rw [List.length_set, List.map_set]
  exact (World.ownsRow.stored h j (bv c)).1
theorem Bts.cell {w : World} {e : TypeId} {g n cap : Nat} {l : List UInt8} (h : Bts w e (.slice (some ⟨g, 0, none⟩) n cap) l) (hn : l.length = n) (j : Nat) (hj : j < n) : w.cell? ⟨g, j, none⟩ = some (bv (l.getD j 0)) := by
  subst hn
  rw [World.ownsRow.cellAt h j (by omega)]
  simp [List.getD, hj]
theorem Bts.frozen {w : World} {e : TypeId} {g n cap : Nat} {l : List UInt8} (h : Bts w e (.slice (some ⟨g, 0, none⟩) n cap) l) (hn : l.length = n) (j : Nat) : w.frozen? ⟨g, j, none⟩ = false := by
  subst hn
  exact World.ownsRow.frozenAt h j

set_option maxRecDepth 100000 in
theorem repeated_any (c : UInt8) (n : Nat) (w : World) (hn : n ≤ 16777216) :
    Calls Try.prog 32 #[.int .u8 c.toNat, .int .i64 n] w fun e w' => e = .returned (strV (List.replicate n c)) ∧ Frm (fun _ => False) w w' := by
  obtain ⟨i0, hi, hz0, hz1, hz2⟩ := info_parts Try.info5
  have hfin : ∀ (wr : World), Bts wr 5 (.slice (some ⟨w.heap.size, 0, none⟩) n n) (List.replicate n c ++ List.replicate (n - n) 0) → (convert 56 9 (.slice (some ⟨w.heap.size, 0, none⟩) n n)).run Try.prog wr = .ok (strV (List.replicate n c)) wr := by
    intro wr h
    rw [h.conv]
    simp
  have Hfin := Lib.hid hfin
  clear hfin
  go_enter Try.func32, Try.ntmps32
  go_wp2_with (at_make; refine wpList_make_full _ rfl _ _ 56 rfl 0 5 i0 (.int .u8 0) 1 Try.underlying56 hi hz0 hz1 .i64 .i64 _ _ n rfl rfl (by omega) (by omega) (by rw [hz2]; omega) (by unfold maxLen; omega) (Nat.zero_le _) ?_; intro w1 hown hgrow)
  have hF1 : Frm (fun _ => False) w w1 := Frm.of_grown hgrow (by simp)
  have hb1 : Bts w1 5 (.slice (some ⟨w.heap.size, 0, none⟩) n n) (List.replicate 0 c ++ List.replicate (n - 0) 0) := by
    unfold Bts
    have e : (List.replicate 0 c ++ List.replicate (n - 0) (0 : UInt8)) = List.replicate n 0 := by simp
    rw [e, List.length_replicate, ← madeBytes]
    exact hown
  clear hown hgrow
  go_loopw [6] (fun si wr => ∃ i : Nat, si = .int .i64 i ∧ i ≤ n ∧ Bts wr 5 (.slice (some ⟨w.heap.size, 0, none⟩) n n) (List.replicate i c ++ List.replicate (n - i) 0) ∧ Frm (fun _ => False) w wr) (fun i _ => n - (intOf i).toNat)
  case atStart => exact ⟨0, rfl, Nat.zero_le _, hb1, hF1⟩
  case round =>
    obtain ⟨i, rfl, hin, hb, hF⟩ := hrel
    have hlen : (List.replicate i c ++ List.replicate (n - i) (0 : UInt8)).length = n := by simp; omega
    clear hb1 hF1
    by_cases hlt : i < n
    · have hc := hb.cell hlen i hlt
      have hfz := hb.frozen hlen i
      have fin : Bts (wr.setCell ⟨w.heap.size, i, none⟩ (bv c)) 5 (.slice (some ⟨w.heap.size, 0, none⟩) n n) (List.replicate (i + 1) c ++ List.replicate (n - (i + 1)) 0) := by
        have := hb.set hlen i c
        have e : (List.replicate i c ++ List.replicate (n - i) (0 : UInt8)).set i c = List.replicate (i + 1) c ++ List.replicate (n - (i + 1)) 0 := by
          rw [List.set_append, if_neg (by simp), List.length_replicate, Nat.sub_self, show n - i = (n - (i + 1)) + 1 by omega, List.replicate_succ, List.set_cons_zero, List.replicate_succ', List.append_assoc]
          rfl
        rw [e] at this
        exact this
      have Fin := Lib.hid fin
      clear fin hb hlen
      unfold bv at hc
      go_wp2_with fail
      go_roundw
      case rel => exact ⟨i + 1, by go_num, hlt, Fin.out, hF.setCell (.inr (Nat.le_refl _)) _⟩
      case measure => simp [intOf]; omega
    · obtain rfl : i = n := by omega
      have hconv := Hfin.out wr hb
      unfold strV at hconv
      clear hb hlen
      go_wp2_with fail
      go_ret
      exact ⟨rfl, hF⟩
end Go.Proofs.Ytehdjajeonemoaa
