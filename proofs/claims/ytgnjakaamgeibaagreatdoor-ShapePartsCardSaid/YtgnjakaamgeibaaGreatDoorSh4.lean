/-
 The reference's some and Contains: what the code does. Conditions: the strings are short.
 The reference's Contains, Empty, Sample: what the code does. Conditions: the strings are short.
-/
import Derived.Test.YtgnjakaamgeibaaGreatDoorSh2
import Derived.Test.YtgnjakaamgeibaaGreatDoorRPar
import Derived.Test.YtgnjakaamgeibaaGreatDoorBld
namespace Go.Proofs.YtgnjakaamgeibaaGreatDoor
open Go.RowKit Go.Shelf
attribute [local go_sem] Oper.semAt_some
theorem p2 {α : Type} (l : List α) (i : Nat) (x : α) : l.toArray.setIfInBounds i x = (l.set i x).toArray := List.setIfInBounds_toArray ..
theorem p3 {α : Type} {a b : α} {l : List α} : (a :: l).set 0 b = b :: l := rfl
theorem p4 {α : Type} {a b : α} {l : List α} {n : Nat} : (a :: l).set (n + 1) b = a :: l.set n b := rfl
/-- An operation of a drawn region is taken: wpAnyH_take, with its three computed conditions in one. -/
theorem tk {P : Program} {ops : Array Oper} {Q : Exit → Act → World → Prop} {md : Region.Mode} {S : World → Prop} (i d : Nat) (v : Value) {op : Op} {t : TypeId} {ps : String} {af : Array Edge} {gd : Option (Nat × Bool)} {fuel : Nat} {listed : Array Bool} {a : Act} {w : World} (hi : ops[i]? = some ⟨some d, op, t, ps, af, gd⟩)
  (hk : (Region.noSelect ops && Region.free md ops listed i && (Region.ready md ops listed).contains i) = true) (hQ : ∀ c a w, Q (.panic c) (a.put (some d) v) w → Q (.panic c) a w) (hy : YieldsIf P ops S ⟨some d, op, t, ps, af, gd⟩ v a) (hS : S w)
  (h : wpAnyH P md ops Q S fuel (listed.setIfInBounds i true) (a.put (some d) v) w) : wpAnyH P md ops Q S (fuel + 1) listed a w := by
 simp only [Bool.and_eq_true] at hk
 exact wpAnyH_take hi hk.1.1 hk.1.2 hk.2 hQ hy hS h
theorem bt_test (c : Int) (j : Nat) (h : j ≤ 6) : (bits .and .i64 c (2 ^ j) = 0) ↔ bt c j = false := by
 rw [bits_and]
 constructor
 ·
  intro e
  have := bt_and c (2 ^ j) j
  rw [e, bt_zero, bt_pow _ _ h (by omega)] at this
  simpa using this.symm
 ·
  intro e
  refine bt_ext (rng_and _ _) (by decide) fun k hk => ?_
  rw [bt_and, bt_zero, bt_pow _ _ h hk]
  by_cases hkj : k = j
  ·
   rw [hkj, e]; rfl
  ·
   rw [decide_eq_false hkj]; simp
theorem some_fin (a : Shp) (n : Nat) (hb : a.b.length ≤ n) (hd : a.e.length ≤ n) (S : List UInt8) (hS : S = a.b ++ List.replicate (n - (a.b.length + a.e.length)) (fillC a.cl)) :
  someV a n = if (S.drop (n - a.e.length) == a.e.take (S.length + a.e.length - n)) = true then (S ++ a.e.drop (S.length + a.e.length - n), true) else ([], false) := by
 have hl : S.length = a.b.length + (n - (a.b.length + a.e.length)) := by rw [hS, List.length_append, List.length_replicate]
 unfold someV someL
 rw [if_neg (by omega)]
 by_cases h : a.b.length + a.e.length ≤ n
 ·
  have e0 : S.length + a.e.length - n = 0 := by omega
  rw [if_pos h, e0, List.take_zero, List.drop_zero, List.drop_of_length_le (by omega : S.length ≤ n - a.e.length), hS]
  rfl
 ·
  have e1 : n - (a.b.length + a.e.length) = 0 := by omega
  rw [e1, List.replicate_zero, List.append_nil] at hS
  rw [if_neg h, hS]
  unfold lapB
  rw [show a.b.length - (a.b.length + a.e.length - n) = n - a.e.length by omega]
  by_cases hp : (a.b.drop (n - a.e.length) == a.e.take (a.b.length + a.e.length - n)) = true
  ·
   rw [if_pos hp, if_pos hp]
  ·
   rw [if_neg hp, if_neg hp]
theorem some_no (a : Shp) (n : Nat) (h : n < a.b.length ∨ n < a.e.length) : someV a n = ([], false) := by
 unfold someV someL
 rw [if_pos h]
theorem pow_two (k : Nat) (h : k ≤ 6) : IntKind.i64.wrap (2 ^ k) = 2 ^ k := by
 have key : ∀ k : Fin 7, IntKind.i64.wrap (2 ^ k.1) = 2 ^ k.1 := by decide
 exact key ⟨k, by omega⟩
theorem char_conv (k : Nat) (h : k ≤ 126) : IntKind.u8.wrap (k : Int) = (k : Int) ∧ (((UInt8.ofNat k).toNat : Nat) : Int) = (k : Int) := by
 refine ⟨?_, ?_⟩
 ·
  have key : ∀ k : Fin 127, IntKind.u8.wrap (k.1 : Int) = (k.1 : Int) := by decide
  exact key ⟨k, by omega⟩
 ·
  rw [UInt8.toNat_ofNat_of_lt' (by show k < 256; omega)]
set_option maxRecDepth 100000 in
set_option maxHeartbeats 4000000 in
theorem some_any (a : Shp) (n : Nat) (hn : n ≤ 1000) (hb : a.bg.size ≤ 1000) (hd : a.en.size ≤ 1000) (w : World) : Calls Tryz.prog 28 #[shV a, .int .i64 n] w fun e w' => e = .returned (.tuple #[strV (someV a n).1, .bool (someV a n).2]) ∧ Frm (fun _ => False) w w' := by
 have hno := some_no a n
 have hfin := some_fin a n
 obtain ⟨R, hR⟩ : ∃ R, R = someV a n := ⟨_, rfl⟩
 rw [← hR] at hno hfin ⊢
 have hbs := size_list a.bg
 have hds := size_list a.en
 rw [show a.b.length = a.bg.size from hbs, show a.e.length = a.en.size from hds] at hno hfin
 have hE : a.e = a.en.data.toList := rfl
 have hB : a.b = a.bg.data.toList := rfl
 rw [hE, hB] at hfin
 clear hE hB hR hbs hds
 obtain ⟨l, h, c, b, d⟩ := a
 unfold shV
 simp only at hno hfin hb hd ⊢
 have Hno := Lib.hid hno
 have Hfin := Lib.hid hfin
 clear hno hfin
 go_enter Tryz.func28, Tryz.ntmps28
 go_upto_region 1 with fail
 obtain ⟨W1, x, hW, hx, hf, a0, a1, a2, a3, a4⟩ := one_sh w l h c b d
 rw [hW, hx]
 have HF := Lib.hid hf
 clear hW hx hf
 by_cases q1 : n < b.size
 ·
  have q1' : (n : Int) < (b.size : Int) := by omega
  have hr := Hno.out (.inl q1)
  have Hr := Lib.hid hr
  clear hr q1
  go_wp2_with fail
  exact bodyPost_ret (results_tmp2 rfl _ _ _) rfl ⟨by rw [Hr.out]; rfl, HF.out⟩
 ·
  by_cases q2 : n < d.size
  ·
   have q1' : ¬ (n : Int) < (b.size : Int) := by omega
   have q2' : (n : Int) < (d.size : Int) := by omega
   have hr := Hno.out (.inr q2)
   have Hr := Lib.hid hr
   clear hr q1 q2
   go_wp2_with fail
   exact bodyPost_ret (results_tmp2 rfl _ _ _) rfl ⟨by rw [Hr.out]; rfl, HF.out⟩
  ·
   have q1' : ¬ (n : Int) < (b.size : Int) := by omega
   have q2' : ¬ (n : Int) < (d.size : Int) := by omega
   have Hf1 := Lib.hid (Hfin.out (by omega) (by omega))
   clear Hfin Hno
   go_wp2_with fail
   go_loopw [6, 7] (fun s6 s7 wr => ∃ k : Nat, k ≤ 127 ∧ 32 ≤ k ∧ s7 = .int .i64 ((k : Int) - 1) ∧ s6 = .string ⟨#[fillAt c k (127 - k)]⟩ ∧ Frm (fun _ => False) W1 wr) (fun _ s7 _ => (intOf s7).toNat)
   case atStart => exact ⟨127, by omega, by omega, rfl, rfl, Frm.refl _ _⟩
   case round =>
    obtain ⟨k1, hk, hk2, rfl, rfl, hf⟩ := hrel
    have c2 := hf.cell a2 (fun h => h)
    by_cases hk32 : 33 ≤ k1
    ·
     obtain ⟨k, rfl⟩ : ∃ k, k1 = k + 1 := ⟨k1 - 1, by omega⟩
     rw [show ((k + 1 : Nat) : Int) - 1 = (k : Int) by omega]
     have hge : (32 : Int) ≤ (k : Int) := by omega
     have hfs := fill_step c k (127 - (k + 1))
     rw [show 127 - (k + 1) + 1 = 127 - k by omega, show 127 - (k + 1) = 126 - k by omega] at hfs
     obtain ⟨u1, u2⟩ := char_conv k (by omega)
     have hrc := rclass_any (UInt8.ofNat k)
     have hcv := conv_one (UInt8.ofNat k)
     rw [u2] at hrc hcv
     have hcl := cls_le (UInt8.ofNat k)
     have hpw := pow_two _ hcl
     have hbt := bt_test c _ hcl
     generalize UInt8.ofNat k = uc at *
     generalize clsB uc = j at *
     have Hrc := Lib.hid hrc
     have Hcv := Lib.hid hcv
     have hcD : wr.drew.cell? ⟨x, 2, none⟩ = some (.int .i64 c) := c2
     cases hbv : bt c j
     ·
      have hz := hbt.2 hbv
      rw [hbv] at hfs
      simp only [Bool.false_eq_true, if_false] at hfs
      have Hfs := Lib.hid hfs
      have Hf := Lib.hid hf
      clear hbt hbv hrc hcv u2 hfs hf
      go_upto_region 7 with fail
      refine wp_region_held_drew (S := fun w' => w'.cell? ⟨x, 2, none⟩ = some (.int .i64 (c))) (by kernel_rfl) hcD (fun hHeld => ?_)
      refine tk 0 26 (.pointer (some ⟨x, 2, none⟩)) rfl (by kernel_rfl) (fun _ _ _ h => h) (.inl ⟨by rfl, fun w hw => by dsimp only at hw; go_simp⟩) hHeld ?_
      simp only [Act.put, p2, p3, p4]
      refine tk 1 27 (.int .i64 (c)) rfl (by kernel_rfl) (fun _ _ _ h => h) (.inl ⟨by rfl, fun w hw => by dsimp only at hw; go_simp⟩) hHeld ?_
      simp only [Act.put, p2, p3, p4]
      refine tk 2 28 (.int .i64 (k)) rfl (by kernel_rfl) (fun _ _ _ h => h) (.inl ⟨by rfl, fun w hw => by dsimp only at hw; go_simp⟩) hHeld ?_
      simp only [Act.put, p2, p3, p4]
      refine tk 3 29 (.int .u8 (k)) rfl (by kernel_rfl) (fun _ _ _ h => h) (.inl ⟨by rfl, fun w hw => by dsimp only at hw; go_simp⟩) hHeld ?_
      simp only [Act.put, p2, p3, p4]
      refine wpAnyH_ready (rs := [4]) (by kernel_rfl) (by simp) ?_
      refine AllReadyH.cons (o := ⟨some 30, _, _, _, _, _⟩) rfl (fun K hK => ?_) AllReadyH.nil
      go_simp
      refine (Hrc.out _).mono ?_
      rintro e V1 ⟨rfl, rfl⟩
      refine hK.out _ _ hHeld (fun hHeld => ?_)
      clear hK K
      refine tk 5 31 (.int .i64 (2 ^ j)) rfl (by kernel_rfl) (fun _ _ _ h => h) (.inl ⟨by rfl, fun w hw => by dsimp only at hw; go_simp⟩) hHeld ?_
      simp only [Act.put, p2, p3, p4]
      refine tk 6 32 (.int .i64 (bits .and .i64 (c : Int) (2 ^ j : Int))) rfl (by kernel_rfl) (fun _ _ _ h => h) (.inl ⟨by rfl, fun w hw => by dsimp only at hw; go_simp⟩) hHeld ?_
      simp only [Act.put, p2, p3, p4]
      refine tk 7 33 (.bool (false)) rfl (by kernel_rfl) (fun _ _ _ h => h) (.inl ⟨by rfl, fun w hw => by dsimp only at hw; go_simp⟩) hHeld ?_
      simp only [Act.put, p2, p3, p4]
      refine wpAnyH_done (by kernel_rfl) ?_ _
      go_wp2_with fail
      go_roundw
      case rel => exact ⟨k, by omega, by omega, by go_num, by rw [Hfs.out], Hf.out.drew⟩
      case measure => simp [intOf]; omega
     ·
      have hz : ¬ bits .and .i64 c (2 ^ j) = 0 := fun e => by rw [hbt.1 e] at hbv; cases hbv
      rw [hbv] at hfs
      simp only [if_true] at hfs
      have Hfs := Lib.hid hfs
      have Hf := Lib.hid hf
      clear hbt hbv hrc hcv u2 hfs hf
      go_upto_region 7 with fail
      refine wp_region_held_drew (S := fun w' => w'.cell? ⟨x, 2, none⟩ = some (.int .i64 (c))) (by kernel_rfl) hcD (fun hHeld => ?_)
      refine tk 0 26 (.pointer (some ⟨x, 2, none⟩)) rfl (by kernel_rfl) (fun _ _ _ h => h) (.inl ⟨by rfl, fun w hw => by dsimp only at hw; go_simp⟩) hHeld ?_
      simp only [Act.put, p2, p3, p4]
      refine tk 1 27 (.int .i64 (c)) rfl (by kernel_rfl) (fun _ _ _ h => h) (.inl ⟨by rfl, fun w hw => by dsimp only at hw; go_simp⟩) hHeld ?_
      simp only [Act.put, p2, p3, p4]
      refine tk 2 28 (.int .i64 (k)) rfl (by kernel_rfl) (fun _ _ _ h => h) (.inl ⟨by rfl, fun w hw => by dsimp only at hw; go_simp⟩) hHeld ?_
      simp only [Act.put, p2, p3, p4]
      refine tk 3 29 (.int .u8 (k)) rfl (by kernel_rfl) (fun _ _ _ h => h) (.inl ⟨by rfl, fun w hw => by dsimp only at hw; go_simp⟩) hHeld ?_
      simp only [Act.put, p2, p3, p4]
      refine wpAnyH_ready (rs := [4]) (by kernel_rfl) (by simp) ?_
      refine AllReadyH.cons (o := ⟨some 30, _, _, _, _, _⟩) rfl (fun K hK => ?_) AllReadyH.nil
      go_simp
      refine (Hrc.out _).mono ?_
      rintro e V1 ⟨rfl, rfl⟩
      refine hK.out _ _ hHeld (fun hHeld => ?_)
      clear hK K
      refine tk 5 31 (.int .i64 (2 ^ j)) rfl (by kernel_rfl) (fun _ _ _ h => h) (.inl ⟨by rfl, fun w hw => by dsimp only at hw; go_simp⟩) hHeld ?_
      simp only [Act.put, p2, p3, p4]
      refine tk 6 32 (.int .i64 (bits .and .i64 (c : Int) (2 ^ j : Int))) rfl (by kernel_rfl) (fun _ _ _ h => h) (.inl ⟨by rfl, fun w hw => by dsimp only at hw; go_simp⟩) hHeld ?_
      simp only [Act.put, p2, p3, p4]
      refine tk 7 33 (.bool (true)) rfl (by kernel_rfl) (fun _ _ _ h => h) (.inl ⟨by rfl, fun w hw => by dsimp only at hw; go_simp⟩) hHeld ?_
      simp only [Act.put, p2, p3, p4]
      refine wpAnyH_done (by kernel_rfl) ?_ _
      have hcv2 : (convert 55 9 (.slice (some ⟨wr.heap.size, 0, none⟩) 1 1)).run Tryz.prog ((wr.alloc (.cells #[.int .u8 k] 5)).drew) = .ok (.string ⟨#[uc]⟩) ((wr.alloc (.cells #[.int .u8 k] 5)).drew) := Hcv.out wr.drew
      go_wp2_with fail
      go_roundw
      case rel => exact ⟨k, by omega, by omega, by go_num, by rw [Hfs.out], (Hf.out.alloc _).drew⟩
      case measure => simp [intOf]; omega
    ·
     obtain rfl : k1 = 32 := by omega
     have b3 := hf.cell a3 (fun h => h)
     have b4 := hf.cell a4 (fun h => h)
     have hfe := fill_end c
     rw [show 127 - 32 = 95 by omega, hfe]
     generalize fillC c = fc at *
     have HF2 := Lib.hid (HF.out.trans hf)
     clear a0 a1 a2 a3 a4 c2 hf hfe HF
     go_wp2_with fail
     go_loop [8] (fun s8 => ∃ (k : Nat) (S : ByteArray), s8 = .string S ∧ k ≤ n - (b.size + d.size) ∧ Hid (S.data.toList = b.data.toList ++ List.replicate k fc) ∧ S.size = b.size + k) (fun s8 => match s8 with | .string S => 1000 - S.size | _ => 0)
     case atStart => exact ⟨0, b, rfl, Nat.zero_le _, Lib.hid (by simp), rfl⟩
     case round =>
      obtain ⟨k, S, rfl, hk, hS, hSz⟩ := hrel
      by_cases hlt : S.size + d.size < n
      ·
       have hlt' : (S.size : Int) + d.size < (n : Int) := by omega
       have hcat : ¬ 9223372036854775807 < S.size + (⟨#[fc]⟩ : ByteArray).size := by show ¬ 9223372036854775807 < S.size + 1; omega
       go_wp2_with fail
       go_round
       case rel => exact ⟨k + 1, S ++ ⟨#[fc]⟩, rfl, by omega, Lib.hid (by rw [ByteArray.data_append, Array.toList_append, hS.out, List.append_assoc]; rw [List.replicate_succ']), by rw [ByteArray.size_append]; show S.size + 1 = _; omega⟩
       case measure => simp [ByteArray.size_append]; have : (⟨#[fc]⟩ : ByteArray).size = 1 := rfl; omega
      ·
       have hlt' : ¬ (S.size : Int) + d.size < (n : Int) := by omega
       obtain rfl : k = n - (b.size + d.size) := by omega
       have hF := Hf1.out S.data.toList hS.out
       have hSl := size_list S
       rw [hSl] at hF
       obtain ⟨ov, hov⟩ : ∃ ov, ov = S.size + d.size - n := ⟨_, rfl⟩
       rw [← hov] at hF
       have w1 : IntKind.i64.wrap ((S.size : Int) + d.size - n) = (ov : Int) := by rw [show (S.size : Int) + d.size - n = (ov : Int) by omega]; exact IntWalk.i64_in _ (by omega)
       have w2 : IntKind.i64.wrap ((S.size : Int) - ov) = ((n - d.size : Nat) : Int) := by rw [show (S.size : Int) - ov = ((n - d.size : Nat) : Int) by omega]; exact IntWalk.i64_in _ (by omega)
       have w5 : IntKind.i64.wrap ((n - d.size : Nat) : Int) = ((n - d.size : Nat) : Int) := IntWalk.i64_in _ (by omega)
       have w3 : (S.size : Int) + d.size - n = (ov : Int) := by omega
       have w4 : (S.size : Int) - ov = ((n - d.size : Nat) : Int) := by omega
       have hs1 := fun W : World => run_slice_string_l (P := Tryz.prog) (w := W) (t := 9) (s := S) Tryz.underlying9 .i64 ((n - d.size : Nat) : Int) (by omega) (by omega)
       have hs2 := fun W : World => run_slice_string_h (P := Tryz.prog) (w := W) (t := 9) (s := d) Tryz.underlying9 .i64 (ov : Int) (by omega) (by omega)
       have hs3 := fun W : World => run_slice_string_l (P := Tryz.prog) (w := W) (t := 9) (s := d) Tryz.underlying9 .i64 (ov : Int) (by omega) (by omega)
       rw [Int.toNat_natCast] at hs1 hs2 hs3
       have hlap : ((S.extract (n - d.size) S.size).toList == (d.extract 0 ov).toList) = (S.data.toList.drop (n - d.size) == d.data.toList.take ov) := by
        rw [toList_data, toList_data, ext_toList, ext_toList, List.drop_zero, ← hSl, List.take_length]
       have hcat : ¬ 9223372036854775807 < S.size + (d.extract ov d.size).size := by rw [ByteArray.size_extract]; omega
       rw [← hlap] at hF
       have hH := hF
       clear hlap
       generalize hpq : ((S.extract (n - d.size) S.size).toList == (d.extract 0 ov).toList) = P at hH
       have hne : ((S.extract (n - d.size) S.size).toList != (d.extract 0 ov).toList) = !P := by rw [bne, hpq]
       have hSb : S.size ≤ 2000 := by omega
       clear hF hov hSz hSl hk
       cases P
       ·
        have Hr : Hid (R = ([], false)) := Lib.hid hH
        have b4D : wr.drew.cell? ⟨x, 4, none⟩ = some (.string d) := b4
        clear hH hS Hf1 b3 q1' q2' hs3 hcat
        go_upto_region 13 with fail
        clear hlt hlt'
        refine wp_region_held_drew (S := fun w' => w'.cell? ⟨x, 4, none⟩ = some (.string (d))) (by kernel_rfl) b4D (fun hHeld => ?_)
        refine tk 0 59 (.string (S)) rfl (by kernel_rfl) (fun _ _ _ h => h) (.inl ⟨by rfl, fun w hw => by dsimp only at hw; go_simp⟩) hHeld ?_
        simp only [Act.put, p2, p3, p4]
        refine tk 1 60 (.string (S)) rfl (by kernel_rfl) (fun _ _ _ h => h) (.inl ⟨by rfl, fun w hw => by dsimp only at hw; go_simp⟩) hHeld ?_
        simp only [Act.put, p2, p3, p4]
        refine tk 2 61 (.int .i64 (((S).size : Int))) rfl (by kernel_rfl) (fun _ _ _ h => h) (.inl ⟨by rfl, fun w hw => by dsimp only at hw; go_simp⟩) hHeld ?_
        simp only [Act.put, p2, p3, p4]
        refine tk 3 62 (.int .i64 (ov)) rfl (by kernel_rfl) (fun _ _ _ h => h) (.inl ⟨by rfl, fun w hw => by dsimp only at hw; go_simp⟩) hHeld ?_
        simp only [Act.put, p2, p3, p4]
        refine tk 4 63 (.int .i64 (((n - d.size : Nat) : Int))) rfl (by kernel_rfl) (fun _ _ _ h => h) (.inl ⟨by rfl, fun w hw => by dsimp only at hw; go_simp⟩) hHeld ?_
        simp only [Act.put, p2, p3, p4]
        refine tk 5 64 (.string (S.extract (n - d.size) S.size)) rfl (by kernel_rfl) (fun _ _ _ h => h) (.inl ⟨by rfl, fun w hw => by dsimp only at hw; go_simp⟩) hHeld ?_
        simp only [Act.put, p2, p3, p4]
        refine tk 6 65 (.pointer (some ⟨x, 4, none⟩)) rfl (by kernel_rfl) (fun _ _ _ h => h) (.inl ⟨by rfl, fun w hw => by dsimp only at hw; go_simp⟩) hHeld ?_
        simp only [Act.put, p2, p3, p4]
        refine tk 7 66 (.string (d)) rfl (by kernel_rfl) (fun _ _ _ h => h) (.inl ⟨by rfl, fun w hw => by dsimp only at hw; go_simp⟩) hHeld ?_
        simp only [Act.put, p2, p3, p4]
        refine tk 8 67 (.int .i64 (ov)) rfl (by kernel_rfl) (fun _ _ _ h => h) (.inl ⟨by rfl, fun w hw => by dsimp only at hw; go_simp⟩) hHeld ?_
        simp only [Act.put, p2, p3, p4]
        refine tk 9 68 (.string (d.extract 0 ov)) rfl (by kernel_rfl) (fun _ _ _ h => h) (.inl ⟨by rfl, fun w hw => by dsimp only at hw; go_simp⟩) hHeld ?_
        simp only [Act.put, p2, p3, p4]
        refine tk 10 69 (.bool (true)) rfl (by kernel_rfl) (fun _ _ _ h => h) (.inl ⟨by rfl, fun w hw => by dsimp only at hw; go_simp⟩) hHeld ?_
        simp only [Act.put, p2, p3, p4]
        refine wpAnyH_done (by kernel_rfl) ?_ _
        go_wp2_with fail
        exact bodyPost_ret (results_tmp2 rfl _ _ _) rfl ⟨by rw [Hr.out]; rfl, HF2.out.drew⟩
       ·
        have Hr : Hid (R = (S.data.toList ++ d.data.toList.drop ov, true)) := Lib.hid hH
        have b4D : wr.drew.cell? ⟨x, 4, none⟩ = some (.string d) := b4
        clear hH hS Hf1 b3 q1' q2'
        go_upto_region 13 with fail
        clear hlt hlt'
        refine wp_region_held_drew (S := fun w' => w'.cell? ⟨x, 4, none⟩ = some (.string (d))) (by kernel_rfl) b4D (fun hHeld => ?_)
        refine tk 0 59 (.string (S)) rfl (by kernel_rfl) (fun _ _ _ h => h) (.inl ⟨by rfl, fun w hw => by dsimp only at hw; go_simp⟩) hHeld ?_
        simp only [Act.put, p2, p3, p4]
        refine tk 1 60 (.string (S)) rfl (by kernel_rfl) (fun _ _ _ h => h) (.inl ⟨by rfl, fun w hw => by dsimp only at hw; go_simp⟩) hHeld ?_
        simp only [Act.put, p2, p3, p4]
        refine tk 2 61 (.int .i64 (((S).size : Int))) rfl (by kernel_rfl) (fun _ _ _ h => h) (.inl ⟨by rfl, fun w hw => by dsimp only at hw; go_simp⟩) hHeld ?_
        simp only [Act.put, p2, p3, p4]
        refine tk 3 62 (.int .i64 (ov)) rfl (by kernel_rfl) (fun _ _ _ h => h) (.inl ⟨by rfl, fun w hw => by dsimp only at hw; go_simp⟩) hHeld ?_
        simp only [Act.put, p2, p3, p4]
        refine tk 4 63 (.int .i64 (((n - d.size : Nat) : Int))) rfl (by kernel_rfl) (fun _ _ _ h => h) (.inl ⟨by rfl, fun w hw => by dsimp only at hw; go_simp⟩) hHeld ?_
        simp only [Act.put, p2, p3, p4]
        refine tk 5 64 (.string (S.extract (n - d.size) S.size)) rfl (by kernel_rfl) (fun _ _ _ h => h) (.inl ⟨by rfl, fun w hw => by dsimp only at hw; go_simp⟩) hHeld ?_
        simp only [Act.put, p2, p3, p4]
        refine tk 6 65 (.pointer (some ⟨x, 4, none⟩)) rfl (by kernel_rfl) (fun _ _ _ h => h) (.inl ⟨by rfl, fun w hw => by dsimp only at hw; go_simp⟩) hHeld ?_
        simp only [Act.put, p2, p3, p4]
        refine tk 7 66 (.string (d)) rfl (by kernel_rfl) (fun _ _ _ h => h) (.inl ⟨by rfl, fun w hw => by dsimp only at hw; go_simp⟩) hHeld ?_
        simp only [Act.put, p2, p3, p4]
        refine tk 8 67 (.int .i64 (ov)) rfl (by kernel_rfl) (fun _ _ _ h => h) (.inl ⟨by rfl, fun w hw => by dsimp only at hw; go_simp⟩) hHeld ?_
        simp only [Act.put, p2, p3, p4]
        refine tk 9 68 (.string (d.extract 0 ov)) rfl (by kernel_rfl) (fun _ _ _ h => h) (.inl ⟨by rfl, fun w hw => by dsimp only at hw; go_simp⟩) hHeld ?_
        simp only [Act.put, p2, p3, p4]
        refine tk 10 69 (.bool (false)) rfl (by kernel_rfl) (fun _ _ _ h => h) (.inl ⟨by rfl, fun w hw => by dsimp only at hw; go_simp⟩) hHeld ?_
        simp only [Act.put, p2, p3, p4]
        refine wpAnyH_done (by kernel_rfl) ?_ _
        obtain b4 := hHeld
        go_wp2_with fail
        refine bodyPost_ret (results_tmp2 rfl _ _ _) rfl ⟨?_, HF2.out.drew⟩
        rw [Hr.out]
        have e2 : (d.extract ov d.size).data.toList = d.data.toList.drop ov := by rw [ext_toList, ← size_list d, List.take_length]
        unfold strV
        rw [← e2, ← Array.toList_append, ← ByteArray.data_append]
        rfl
end Go.Proofs.YtgnjakaamgeibaaGreatDoor
namespace Go.Proofs.YtgnjakaamgeibaaGreatDoor
open Go.RowKit Go.Shelf
attribute [local go_sem] Oper.semAt_some
/-- What the tests of the reference's Contains say. -/
structure RcT (l h c : Int) (b d t : ByteArray) (R : Bool) : Prop where
 r1 : textB t.data.toList = false → R = false
 r2 : (t.size : Int) < l → R = false
 r3 : h < (t.size : Int) → R = false
 r4 : (t.size : Int) < (b.size : Int) → R = false
 r5 : (t.size : Int) < (d.size : Int) → R = false
 r6 : clsIn t.data.toList c = false → R = false
 r7 : b.size ≤ t.size → ((t.extract 0 b.size).toList == b.toList) = false → R = false
 r8 : textB t.data.toList = true → ¬ (t.size : Int) < l → ¬ h < (t.size : Int) → b.size ≤ t.size → d.size ≤ t.size → clsIn t.data.toList c = true → ((t.extract 0 b.size).toList == b.toList) = true → R = ((t.extract (t.size - d.size) t.size).toList == d.toList)
theorem rcT (a : Shp) (t : ByteArray) : RcT a.lo a.hi a.cl a.bg a.en t (inS a t.data.toList) := by
 have hin : inS a t.data.toList = (textB t.data.toList && decide (a.lo ≤ (t.size : Int)) && decide ((t.size : Int) ≤ a.hi) && clsIn t.data.toList a.cl && a.bg.data.toList.isPrefixOf t.data.toList && a.en.data.toList.isSuffixOf t.data.toList) := by
  unfold inS
  rw [size_list]
 have hp : (decide (a.bg.size ≤ t.size) && ((t.extract 0 a.bg.size).toList == a.bg.toList)) = a.bg.data.toList.isPrefixOf t.data.toList := Lib.hasPrefix_raw t a.bg
 have hs : (decide (a.en.size ≤ t.size) && ((t.extract (t.size - a.en.size) t.size).toList == a.en.toList)) = a.en.data.toList.isSuffixOf t.data.toList := Lib.hasSuffix_raw t a.en
 rw [← hp, ← hs] at hin
 refine ⟨fun h => ?_, fun h => ?_, fun h => ?_, fun h => ?_, fun h => ?_, fun h => ?_, fun h1 h => ?_, fun h1 h2 h3 h4 h5 h6 h7 => ?_⟩
 ·
  rw [hin, h]; rfl
 ·
  rw [hin, decide_eq_false (show ¬ a.lo ≤ (t.size : Int) by omega)]; simp
 ·
  rw [hin, decide_eq_false (show ¬ (t.size : Int) ≤ a.hi by omega)]; simp
 ·
  rw [hin, decide_eq_false (show ¬ a.bg.size ≤ t.size by omega)]; simp
 ·
  rw [hin, decide_eq_false (show ¬ a.en.size ≤ t.size by omega)]; simp
 ·
  rw [hin, h]; simp
 ·
  rw [hin, h]; simp
 ·
  rw [hin, h1, h6, h7, decide_eq_true (show a.lo ≤ (t.size : Int) by omega), decide_eq_true (show (t.size : Int) ≤ a.hi by omega), decide_eq_true h4, decide_eq_true h5]; simp
set_option maxRecDepth 100000 in
set_option maxHeartbeats 4000000 in
theorem rcon_any (a : Shp) (t : ByteArray) (ht : t.size ≤ 9223372036854775807) (w : World) : Calls Tryz.prog 29 #[shV a, .string t] w fun e w' => e = .returned (.bool (inS a t.data.toList)) ∧ Frm (fun _ => False) w w' := by
 have hT := rcT a t
 generalize inS a t.data.toList = R at *
 obtain ⟨l, h, c, b, d⟩ := a
 unfold shV
 simp only at hT ⊢
 have HT := Lib.hid hT
 clear hT
 have hab := and_bits t.data.toList c
 rw [← bits_and] at hab
 have hbi := rbits_any t ht
 have Hbi := Lib.hid hbi
 clear hbi
 go_enter Tryz.func29, Tryz.ntmps29
 go_upto_region 1 with fail
 obtain ⟨W1, x, hW, hx, hf, a0, a1, a2, a3, a4⟩ := one_sh w l h c b d
 rw [hW, hx]
 have HF := Lib.hid hf
 clear hW hx hf
 go_wp2_with fail
 refine (risText_any t ht _).mono ?_
 rintro e V1 ⟨rfl, rfl⟩
 cases hx : textB t.data.toList
 ·
  have HR := Lib.hid (HT.out.r1 hx)
  clear hab Hbi HT
  go_wp2_with fail
  go_ret
  exact ⟨ret_bool HR.out.symm, HF.out⟩
 ·
  by_cases h1 : (t.size : Int) < l
  ·
   have HR := Lib.hid (HT.out.r2 h1)
   clear hab Hbi HT
   go_wp2_with fail
   go_ret
   exact ⟨ret_bool HR.out.symm, HF.out⟩
  ·
   by_cases h2 : h < (t.size : Int)
   ·
    have HR := Lib.hid (HT.out.r3 h2)
    clear hab Hbi HT
    go_wp2_with fail
    go_ret
    exact ⟨ret_bool HR.out.symm, HF.out⟩
   ·
    by_cases h3 : (t.size : Int) < (b.size : Int)
    ·
     have HR := Lib.hid (HT.out.r4 h3)
     clear hab Hbi HT
     go_wp2_with fail
     go_ret
     exact ⟨ret_bool HR.out.symm, HF.out⟩
    ·
     by_cases h4 : (t.size : Int) < (d.size : Int)
     ·
      have HR := Lib.hid (HT.out.r5 h4)
      clear hab Hbi HT
      go_wp2_with fail
      go_ret
      exact ⟨ret_bool HR.out.symm, HF.out⟩
     ·
      have H6 := Lib.hid HT.out.r6
      have H7 := Lib.hid (HT.out.r7 (by omega))
      have H8 := Lib.hid (HT.out.r8 hx h1 h2 (by omega) (by omega))
      have w1 : IntKind.i64.wrap ((t.size : Int) - d.size) = ((t.size - d.size : Nat) : Int) := by rw [show (t.size : Int) - d.size = ((t.size - d.size : Nat) : Int) by omega]; exact IntWalk.i64_in _ (by omega)
      have hs1 := fun W : World => run_slice_string_h (P := Tryz.prog) (w := W) (t := 9) (s := t) Tryz.underlying9 .i64 (b.size : Int) (by omega) (by omega)
      have hs2 := fun W : World => run_slice_string_l (P := Tryz.prog) (w := W) (t := 9) (s := t) Tryz.underlying9 .i64 ((t.size - d.size : Nat) : Int) (by omega) (by omega)
      rw [Int.toNat_natCast] at hs1 hs2
      have HF2 := Lib.hid HF.out.drew
      have hbr : ((t.size : Int) < l) = False := eq_false h1
      have hbr2 : (h < (t.size : Int)) = False := eq_false h2
      clear HT HF
      go_upto_region 3 with fail
      clear hbr hbr2 h1 h2 hx ht
      have hx : ∀ (P : Bool) (u v : Int), ((u == v) = P) → (P = true → u = v) ∧ (P = false → ¬ u = v) := fun P u v e => by subst e; exact ⟨fun h => by simpa using h, fun h => by simpa using h⟩
      have hy : ∀ (P : Bool) (u v : List UInt8), ((u == v) = P) → (P = true → u = v) ∧ (P = false → ¬ u = v) := fun P u v e => by subst e; exact ⟨fun h => by simpa using h, fun h => by simpa using h⟩
      cases hcl : clsIn t.data.toList c
      ·
       rw [hcl] at hab
       have hn := (hx _ _ _ hab).2 rfl
       have HR := Lib.hid (H6.out hcl)
       clear H6 H7 H8 hcl hab hx hy
       refine wp_region_held_drew (S := fun w' => w'.cell? ⟨x, 0, none⟩ = some (.int .i64 (l)) ∧ w'.cell? ⟨x, 1, none⟩ = some (.int .i64 (h)) ∧ w'.cell? ⟨x, 2, none⟩ = some (.int .i64 (c)) ∧ w'.cell? ⟨x, 3, none⟩ = some (.string (b)) ∧ w'.cell? ⟨x, 4, none⟩ = some (.string (d))) (by kernel_rfl) ⟨a0, a1, a2, a3, a4⟩ (fun hHeld => ?_)
       refine tk 0 38 (.string (t)) rfl (by kernel_rfl) (fun _ _ _ h => h) (.inl ⟨by rfl, fun w hw => by dsimp only at hw; go_simp⟩) hHeld ?_
       simp only [Act.put, p2, p3, p4]
       refine tk 2 40 (.pointer (some ⟨x, 2, none⟩)) rfl (by kernel_rfl) (fun _ _ _ h => h) (.inl ⟨by rfl, fun w hw => by dsimp only at hw; go_simp⟩) hHeld ?_
       simp only [Act.put, p2, p3, p4]
       refine tk 3 41 (.int .i64 (c)) rfl (by kernel_rfl) (fun _ _ _ h => h) (.inl ⟨by rfl, fun w hw => by dsimp only at hw; go_simp⟩) hHeld ?_
       simp only [Act.put, p2, p3, p4]
       refine tk 5 43 (.string (t)) rfl (by kernel_rfl) (fun _ _ _ h => h) (.inl ⟨by rfl, fun w hw => by dsimp only at hw; go_simp⟩) hHeld ?_
       simp only [Act.put, p2, p3, p4]
       refine wpAnyH_ready (rs := [1]) (by kernel_rfl) (by simp) ?_
       refine AllReadyH.cons (o := ⟨some 39, _, _, _, _, _⟩) rfl (fun K hK => ?_) AllReadyH.nil
       go_simp
       refine (Hbi.out _).mono ?_
       rintro e V1 ⟨rfl, rfl⟩
       refine hK.out _ _ hHeld (fun hHeld => ?_)
       clear hK K
       refine tk 4 42 (.int .i64 (bits .and .i64 (bitsI t.data.toList : Int) (c : Int))) rfl (by kernel_rfl) (fun _ _ _ h => h) (.inl ⟨by rfl, fun w hw => by dsimp only at hw; go_simp⟩) hHeld ?_
       simp only [Act.put, p2, p3, p4]
       refine wpAnyH_ready (rs := [6]) (by kernel_rfl) (by simp) ?_
       refine AllReadyH.cons (o := ⟨some 44, _, _, _, _, _⟩) rfl (fun K hK => ?_) AllReadyH.nil
       go_simp
       refine (Hbi.out _).mono ?_
       rintro e V2 ⟨rfl, rfl⟩
       refine hK.out _ _ hHeld (fun hHeld => ?_)
       clear hK K
       refine tk 7 45 (.bool (false)) rfl (by kernel_rfl) (fun _ _ _ h => h) (.inl ⟨by rfl, fun w hw => by dsimp only at hw; go_simp⟩) hHeld ?_
       simp only [Act.put, p2, p3, p4]
       refine tk 8 46 (.bool (false)) rfl (by kernel_rfl) (fun _ _ _ h => h) (.inl ⟨by rfl, fun w hw => by dsimp only at hw; go_simp⟩) hHeld ?_
       simp only [Act.put, p2, p3, p4]
       refine tk 9 47 _ rfl (by kernel_rfl) (fun _ _ _ h => h) (.inr ⟨by rfl, rfl⟩) hHeld ?_
       simp only [Act.put, p2, p3, p4]
       refine tk 10 48 _ rfl (by kernel_rfl) (fun _ _ _ h => h) (.inr ⟨by rfl, rfl⟩) hHeld ?_
       simp only [Act.put, p2, p3, p4]
       refine tk 11 49 _ rfl (by kernel_rfl) (fun _ _ _ h => h) (.inr ⟨by rfl, rfl⟩) hHeld ?_
       simp only [Act.put, p2, p3, p4]
       refine tk 12 50 _ rfl (by kernel_rfl) (fun _ _ _ h => h) (.inr ⟨by rfl, rfl⟩) hHeld ?_
       simp only [Act.put, p2, p3, p4]
       refine tk 13 51 _ rfl (by kernel_rfl) (fun _ _ _ h => h) (.inr ⟨by rfl, rfl⟩) hHeld ?_
       simp only [Act.put, p2, p3, p4]
       refine tk 14 52 _ rfl (by kernel_rfl) (fun _ _ _ h => h) (.inr ⟨by rfl, rfl⟩) hHeld ?_
       simp only [Act.put, p2, p3, p4]
       refine tk 15 53 _ rfl (by kernel_rfl) (fun _ _ _ h => h) (.inr ⟨by rfl, rfl⟩) hHeld ?_
       simp only [Act.put, p2, p3, p4]
       refine tk 16 54 _ rfl (by kernel_rfl) (fun _ _ _ h => h) (.inr ⟨by rfl, rfl⟩) hHeld ?_
       simp only [Act.put, p2, p3, p4]
       refine tk 17 55 (.bool (false)) rfl (by kernel_rfl) (fun _ _ _ h => h) (.inl ⟨by rfl, fun w hw => by dsimp only at hw; go_simp⟩) hHeld ?_
       simp only [Act.put, p2, p3, p4]
       refine tk 18 56 (.bool (false)) rfl (by kernel_rfl) (fun _ _ _ h => h) (.inl ⟨by rfl, fun w hw => by dsimp only at hw; go_simp⟩) hHeld ?_
       simp only [Act.put, p2, p3, p4]
       refine tk 19 57 _ rfl (by kernel_rfl) (fun _ _ _ h => h) (.inr ⟨by rfl, rfl⟩) hHeld ?_
       simp only [Act.put, p2, p3, p4]
       refine tk 20 58 _ rfl (by kernel_rfl) (fun _ _ _ h => h) (.inr ⟨by rfl, rfl⟩) hHeld ?_
       simp only [Act.put, p2, p3, p4]
       refine tk 21 59 _ rfl (by kernel_rfl) (fun _ _ _ h => h) (.inr ⟨by rfl, rfl⟩) hHeld ?_
       simp only [Act.put, p2, p3, p4]
       refine tk 22 60 _ rfl (by kernel_rfl) (fun _ _ _ h => h) (.inr ⟨by rfl, rfl⟩) hHeld ?_
       simp only [Act.put, p2, p3, p4]
       refine tk 23 61 _ rfl (by kernel_rfl) (fun _ _ _ h => h) (.inr ⟨by rfl, rfl⟩) hHeld ?_
       simp only [Act.put, p2, p3, p4]
       refine tk 24 62 _ rfl (by kernel_rfl) (fun _ _ _ h => h) (.inr ⟨by rfl, rfl⟩) hHeld ?_
       simp only [Act.put, p2, p3, p4]
       refine tk 25 63 _ rfl (by kernel_rfl) (fun _ _ _ h => h) (.inr ⟨by rfl, rfl⟩) hHeld ?_
       simp only [Act.put, p2, p3, p4]
       refine tk 26 64 _ rfl (by kernel_rfl) (fun _ _ _ h => h) (.inr ⟨by rfl, rfl⟩) hHeld ?_
       simp only [Act.put, p2, p3, p4]
       refine tk 27 65 _ rfl (by kernel_rfl) (fun _ _ _ h => h) (.inr ⟨by rfl, rfl⟩) hHeld ?_
       simp only [Act.put, p2, p3, p4]
       refine tk 28 66 _ rfl (by kernel_rfl) (fun _ _ _ h => h) (.inr ⟨by rfl, rfl⟩) hHeld ?_
       simp only [Act.put, p2, p3, p4]
       refine tk 29 67 _ rfl (by kernel_rfl) (fun _ _ _ h => h) (.inr ⟨by rfl, rfl⟩) hHeld ?_
       simp only [Act.put, p2, p3, p4]
       refine tk 30 68 (.bool (false)) rfl (by kernel_rfl) (fun _ _ _ h => h) (.inl ⟨by rfl, fun w hw => by dsimp only at hw; go_simp⟩) hHeld ?_
       simp only [Act.put, p2, p3, p4]
       refine tk 31 4 (.bool (false)) rfl (by kernel_rfl) (fun _ _ _ h => h) (.inl ⟨by rfl, fun w hw => by dsimp only at hw; go_simp⟩) hHeld ?_
       simp only [Act.put, p2, p3, p4]
       refine wpAnyH_done (by kernel_rfl) ?_ _
       go_wp2_with fail
       go_ret
       exact ⟨ret_bool HR.out.symm, HF2.out⟩
      ·
       rw [hcl] at hab
       have hn := (hx _ _ _ hab).1 rfl
       have H8' := Lib.hid (H8.out hcl)
       clear H6 H8 hcl hab hx
       cases hp : ((t.extract 0 b.size).toList == b.toList)
       ·
        have hpn := (hy _ _ _ hp).2 rfl
        have HR := Lib.hid (H7.out hp)
        clear H7 H8' hp hy
        refine wp_region_held_drew (S := fun w' => w'.cell? ⟨x, 0, none⟩ = some (.int .i64 (l)) ∧ w'.cell? ⟨x, 1, none⟩ = some (.int .i64 (h)) ∧ w'.cell? ⟨x, 2, none⟩ = some (.int .i64 (c)) ∧ w'.cell? ⟨x, 3, none⟩ = some (.string (b)) ∧ w'.cell? ⟨x, 4, none⟩ = some (.string (d))) (by kernel_rfl) ⟨a0, a1, a2, a3, a4⟩ (fun hHeld => ?_)
        refine tk 0 38 (.string (t)) rfl (by kernel_rfl) (fun _ _ _ h => h) (.inl ⟨by rfl, fun w hw => by dsimp only at hw; go_simp⟩) hHeld ?_
        simp only [Act.put, p2, p3, p4]
        refine tk 2 40 (.pointer (some ⟨x, 2, none⟩)) rfl (by kernel_rfl) (fun _ _ _ h => h) (.inl ⟨by rfl, fun w hw => by dsimp only at hw; go_simp⟩) hHeld ?_
        simp only [Act.put, p2, p3, p4]
        refine tk 3 41 (.int .i64 (c)) rfl (by kernel_rfl) (fun _ _ _ h => h) (.inl ⟨by rfl, fun w hw => by dsimp only at hw; go_simp⟩) hHeld ?_
        simp only [Act.put, p2, p3, p4]
        refine tk 5 43 (.string (t)) rfl (by kernel_rfl) (fun _ _ _ h => h) (.inl ⟨by rfl, fun w hw => by dsimp only at hw; go_simp⟩) hHeld ?_
        simp only [Act.put, p2, p3, p4]
        refine wpAnyH_ready (rs := [1]) (by kernel_rfl) (by simp) ?_
        refine AllReadyH.cons (o := ⟨some 39, _, _, _, _, _⟩) rfl (fun K hK => ?_) AllReadyH.nil
        go_simp
        refine (Hbi.out _).mono ?_
        rintro e V1 ⟨rfl, rfl⟩
        refine hK.out _ _ hHeld (fun hHeld => ?_)
        clear hK K
        refine tk 4 42 (.int .i64 (bits .and .i64 (bitsI t.data.toList : Int) (c : Int))) rfl (by kernel_rfl) (fun _ _ _ h => h) (.inl ⟨by rfl, fun w hw => by dsimp only at hw; go_simp⟩) hHeld ?_
        simp only [Act.put, p2, p3, p4]
        refine wpAnyH_ready (rs := [6]) (by kernel_rfl) (by simp) ?_
        refine AllReadyH.cons (o := ⟨some 44, _, _, _, _, _⟩) rfl (fun K hK => ?_) AllReadyH.nil
        go_simp
        refine (Hbi.out _).mono ?_
        rintro e V2 ⟨rfl, rfl⟩
        refine hK.out _ _ hHeld (fun hHeld => ?_)
        clear hK K
        refine tk 7 45 (.bool (true)) rfl (by kernel_rfl) (fun _ _ _ h => h) (.inl ⟨by rfl, fun w hw => by dsimp only at hw; go_simp⟩) hHeld ?_
        simp only [Act.put, p2, p3, p4]
        refine tk 8 46 (.bool (true)) rfl (by kernel_rfl) (fun _ _ _ h => h) (.inl ⟨by rfl, fun w hw => by dsimp only at hw; go_simp⟩) hHeld ?_
        simp only [Act.put, p2, p3, p4]
        refine tk 9 47 (.string (t)) rfl (by kernel_rfl) (fun _ _ _ h => h) (.inl ⟨by rfl, fun w hw => by dsimp only at hw; go_simp⟩) hHeld ?_
        simp only [Act.put, p2, p3, p4]
        refine tk 10 48 (.pointer (some ⟨x, 3, none⟩)) rfl (by kernel_rfl) (fun _ _ _ h => h) (.inl ⟨by rfl, fun w hw => by dsimp only at hw; go_simp⟩) hHeld ?_
        simp only [Act.put, p2, p3, p4]
        refine tk 11 49 (.string (b)) rfl (by kernel_rfl) (fun _ _ _ h => h) (.inl ⟨by rfl, fun w hw => by dsimp only at hw; go_simp⟩) hHeld ?_
        simp only [Act.put, p2, p3, p4]
        refine tk 12 50 (.int .i64 (((b).size : Int))) rfl (by kernel_rfl) (fun _ _ _ h => h) (.inl ⟨by rfl, fun w hw => by dsimp only at hw; go_simp⟩) hHeld ?_
        simp only [Act.put, p2, p3, p4]
        refine tk 13 51 (.string (t.extract 0 b.size)) rfl (by kernel_rfl) (fun _ _ _ h => h) (.inl ⟨by rfl, fun w hw => by dsimp only at hw; go_simp⟩) hHeld ?_
        simp only [Act.put, p2, p3, p4]
        refine tk 14 52 (.pointer (some ⟨x, 3, none⟩)) rfl (by kernel_rfl) (fun _ _ _ h => h) (.inl ⟨by rfl, fun w hw => by dsimp only at hw; go_simp⟩) hHeld ?_
        simp only [Act.put, p2, p3, p4]
        refine tk 15 53 (.string (b)) rfl (by kernel_rfl) (fun _ _ _ h => h) (.inl ⟨by rfl, fun w hw => by dsimp only at hw; go_simp⟩) hHeld ?_
        simp only [Act.put, p2, p3, p4]
        refine tk 16 54 (.bool (false)) rfl (by kernel_rfl) (fun _ _ _ h => h) (.inl ⟨by rfl, fun w hw => by dsimp only at hw; go_simp⟩) hHeld ?_
        simp only [Act.put, p2, p3, p4]
        refine tk 17 55 (.bool (false)) rfl (by kernel_rfl) (fun _ _ _ h => h) (.inl ⟨by rfl, fun w hw => by dsimp only at hw; go_simp⟩) hHeld ?_
        simp only [Act.put, p2, p3, p4]
        refine tk 18 56 (.bool (false)) rfl (by kernel_rfl) (fun _ _ _ h => h) (.inl ⟨by rfl, fun w hw => by dsimp only at hw; go_simp⟩) hHeld ?_
        simp only [Act.put, p2, p3, p4]
        refine tk 19 57 _ rfl (by kernel_rfl) (fun _ _ _ h => h) (.inr ⟨by rfl, rfl⟩) hHeld ?_
        simp only [Act.put, p2, p3, p4]
        refine tk 20 58 _ rfl (by kernel_rfl) (fun _ _ _ h => h) (.inr ⟨by rfl, rfl⟩) hHeld ?_
        simp only [Act.put, p2, p3, p4]
        refine tk 21 59 _ rfl (by kernel_rfl) (fun _ _ _ h => h) (.inr ⟨by rfl, rfl⟩) hHeld ?_
        simp only [Act.put, p2, p3, p4]
        refine tk 22 60 _ rfl (by kernel_rfl) (fun _ _ _ h => h) (.inr ⟨by rfl, rfl⟩) hHeld ?_
        simp only [Act.put, p2, p3, p4]
        refine tk 23 61 _ rfl (by kernel_rfl) (fun _ _ _ h => h) (.inr ⟨by rfl, rfl⟩) hHeld ?_
        simp only [Act.put, p2, p3, p4]
        refine tk 24 62 _ rfl (by kernel_rfl) (fun _ _ _ h => h) (.inr ⟨by rfl, rfl⟩) hHeld ?_
        simp only [Act.put, p2, p3, p4]
        refine tk 25 63 _ rfl (by kernel_rfl) (fun _ _ _ h => h) (.inr ⟨by rfl, rfl⟩) hHeld ?_
        simp only [Act.put, p2, p3, p4]
        refine tk 26 64 _ rfl (by kernel_rfl) (fun _ _ _ h => h) (.inr ⟨by rfl, rfl⟩) hHeld ?_
        simp only [Act.put, p2, p3, p4]
        refine tk 27 65 _ rfl (by kernel_rfl) (fun _ _ _ h => h) (.inr ⟨by rfl, rfl⟩) hHeld ?_
        simp only [Act.put, p2, p3, p4]
        refine tk 28 66 _ rfl (by kernel_rfl) (fun _ _ _ h => h) (.inr ⟨by rfl, rfl⟩) hHeld ?_
        simp only [Act.put, p2, p3, p4]
        refine tk 29 67 _ rfl (by kernel_rfl) (fun _ _ _ h => h) (.inr ⟨by rfl, rfl⟩) hHeld ?_
        simp only [Act.put, p2, p3, p4]
        refine tk 30 68 (.bool (false)) rfl (by kernel_rfl) (fun _ _ _ h => h) (.inl ⟨by rfl, fun w hw => by dsimp only at hw; go_simp⟩) hHeld ?_
        simp only [Act.put, p2, p3, p4]
        refine tk 31 4 (.bool (false)) rfl (by kernel_rfl) (fun _ _ _ h => h) (.inl ⟨by rfl, fun w hw => by dsimp only at hw; go_simp⟩) hHeld ?_
        simp only [Act.put, p2, p3, p4]
        refine wpAnyH_done (by kernel_rfl) ?_ _
        go_wp2_with fail
        go_ret
        exact ⟨ret_bool HR.out.symm, HF2.out⟩
       ·
        have hpn := (hy _ _ _ hp).1 rfl
        have HR := Lib.hid (H8'.out hp)
        clear H7 H8' hp
        cases hq : ((t.extract (t.size - d.size) t.size).toList == d.toList)
        ·
         have hqn := (hy _ _ _ hq).2 rfl
         have HR2 : Hid (R = false) := Lib.hid (by rw [HR.out, hq])
         clear HR hq hy
         refine wp_region_held_drew (S := fun w' => w'.cell? ⟨x, 0, none⟩ = some (.int .i64 (l)) ∧ w'.cell? ⟨x, 1, none⟩ = some (.int .i64 (h)) ∧ w'.cell? ⟨x, 2, none⟩ = some (.int .i64 (c)) ∧ w'.cell? ⟨x, 3, none⟩ = some (.string (b)) ∧ w'.cell? ⟨x, 4, none⟩ = some (.string (d))) (by kernel_rfl) ⟨a0, a1, a2, a3, a4⟩ (fun hHeld => ?_)
         refine tk 0 38 (.string (t)) rfl (by kernel_rfl) (fun _ _ _ h => h) (.inl ⟨by rfl, fun w hw => by dsimp only at hw; go_simp⟩) hHeld ?_
         simp only [Act.put, p2, p3, p4]
         refine tk 2 40 (.pointer (some ⟨x, 2, none⟩)) rfl (by kernel_rfl) (fun _ _ _ h => h) (.inl ⟨by rfl, fun w hw => by dsimp only at hw; go_simp⟩) hHeld ?_
         simp only [Act.put, p2, p3, p4]
         refine tk 3 41 (.int .i64 (c)) rfl (by kernel_rfl) (fun _ _ _ h => h) (.inl ⟨by rfl, fun w hw => by dsimp only at hw; go_simp⟩) hHeld ?_
         simp only [Act.put, p2, p3, p4]
         refine tk 5 43 (.string (t)) rfl (by kernel_rfl) (fun _ _ _ h => h) (.inl ⟨by rfl, fun w hw => by dsimp only at hw; go_simp⟩) hHeld ?_
         simp only [Act.put, p2, p3, p4]
         refine wpAnyH_ready (rs := [1]) (by kernel_rfl) (by simp) ?_
         refine AllReadyH.cons (o := ⟨some 39, _, _, _, _, _⟩) rfl (fun K hK => ?_) AllReadyH.nil
         go_simp
         refine (Hbi.out _).mono ?_
         rintro e V1 ⟨rfl, rfl⟩
         refine hK.out _ _ hHeld (fun hHeld => ?_)
         clear hK K
         refine tk 4 42 (.int .i64 (bits .and .i64 (bitsI t.data.toList : Int) (c : Int))) rfl (by kernel_rfl) (fun _ _ _ h => h) (.inl ⟨by rfl, fun w hw => by dsimp only at hw; go_simp⟩) hHeld ?_
         simp only [Act.put, p2, p3, p4]
         refine wpAnyH_ready (rs := [6]) (by kernel_rfl) (by simp) ?_
         refine AllReadyH.cons (o := ⟨some 44, _, _, _, _, _⟩) rfl (fun K hK => ?_) AllReadyH.nil
         go_simp
         refine (Hbi.out _).mono ?_
         rintro e V2 ⟨rfl, rfl⟩
         refine hK.out _ _ hHeld (fun hHeld => ?_)
         clear hK K
         refine tk 7 45 (.bool (true)) rfl (by kernel_rfl) (fun _ _ _ h => h) (.inl ⟨by rfl, fun w hw => by dsimp only at hw; go_simp⟩) hHeld ?_
         simp only [Act.put, p2, p3, p4]
         refine tk 8 46 (.bool (true)) rfl (by kernel_rfl) (fun _ _ _ h => h) (.inl ⟨by rfl, fun w hw => by dsimp only at hw; go_simp⟩) hHeld ?_
         simp only [Act.put, p2, p3, p4]
         refine tk 9 47 (.string (t)) rfl (by kernel_rfl) (fun _ _ _ h => h) (.inl ⟨by rfl, fun w hw => by dsimp only at hw; go_simp⟩) hHeld ?_
         simp only [Act.put, p2, p3, p4]
         refine tk 10 48 (.pointer (some ⟨x, 3, none⟩)) rfl (by kernel_rfl) (fun _ _ _ h => h) (.inl ⟨by rfl, fun w hw => by dsimp only at hw; go_simp⟩) hHeld ?_
         simp only [Act.put, p2, p3, p4]
         refine tk 11 49 (.string (b)) rfl (by kernel_rfl) (fun _ _ _ h => h) (.inl ⟨by rfl, fun w hw => by dsimp only at hw; go_simp⟩) hHeld ?_
         simp only [Act.put, p2, p3, p4]
         refine tk 12 50 (.int .i64 (((b).size : Int))) rfl (by kernel_rfl) (fun _ _ _ h => h) (.inl ⟨by rfl, fun w hw => by dsimp only at hw; go_simp⟩) hHeld ?_
         simp only [Act.put, p2, p3, p4]
         refine tk 13 51 (.string (t.extract 0 b.size)) rfl (by kernel_rfl) (fun _ _ _ h => h) (.inl ⟨by rfl, fun w hw => by dsimp only at hw; go_simp⟩) hHeld ?_
         simp only [Act.put, p2, p3, p4]
         refine tk 14 52 (.pointer (some ⟨x, 3, none⟩)) rfl (by kernel_rfl) (fun _ _ _ h => h) (.inl ⟨by rfl, fun w hw => by dsimp only at hw; go_simp⟩) hHeld ?_
         simp only [Act.put, p2, p3, p4]
         refine tk 15 53 (.string (b)) rfl (by kernel_rfl) (fun _ _ _ h => h) (.inl ⟨by rfl, fun w hw => by dsimp only at hw; go_simp⟩) hHeld ?_
         simp only [Act.put, p2, p3, p4]
         refine tk 16 54 (.bool (true)) rfl (by kernel_rfl) (fun _ _ _ h => h) (.inl ⟨by rfl, fun w hw => by dsimp only at hw; go_simp⟩) hHeld ?_
         simp only [Act.put, p2, p3, p4]
         refine tk 17 55 (.bool (true)) rfl (by kernel_rfl) (fun _ _ _ h => h) (.inl ⟨by rfl, fun w hw => by dsimp only at hw; go_simp⟩) hHeld ?_
         simp only [Act.put, p2, p3, p4]
         refine tk 18 56 (.bool (true)) rfl (by kernel_rfl) (fun _ _ _ h => h) (.inl ⟨by rfl, fun w hw => by dsimp only at hw; go_simp⟩) hHeld ?_
         simp only [Act.put, p2, p3, p4]
         refine tk 19 57 (.string (t)) rfl (by kernel_rfl) (fun _ _ _ h => h) (.inl ⟨by rfl, fun w hw => by dsimp only at hw; go_simp⟩) hHeld ?_
         simp only [Act.put, p2, p3, p4]
         refine tk 20 58 (.string (t)) rfl (by kernel_rfl) (fun _ _ _ h => h) (.inl ⟨by rfl, fun w hw => by dsimp only at hw; go_simp⟩) hHeld ?_
         simp only [Act.put, p2, p3, p4]
         refine tk 21 59 (.int .i64 (((t).size : Int))) rfl (by kernel_rfl) (fun _ _ _ h => h) (.inl ⟨by rfl, fun w hw => by dsimp only at hw; go_simp⟩) hHeld ?_
         simp only [Act.put, p2, p3, p4]
         refine tk 22 60 (.pointer (some ⟨x, 4, none⟩)) rfl (by kernel_rfl) (fun _ _ _ h => h) (.inl ⟨by rfl, fun w hw => by dsimp only at hw; go_simp⟩) hHeld ?_
         simp only [Act.put, p2, p3, p4]
         refine tk 23 61 (.string (d)) rfl (by kernel_rfl) (fun _ _ _ h => h) (.inl ⟨by rfl, fun w hw => by dsimp only at hw; go_simp⟩) hHeld ?_
         simp only [Act.put, p2, p3, p4]
         refine tk 24 62 (.int .i64 (((d).size : Int))) rfl (by kernel_rfl) (fun _ _ _ h => h) (.inl ⟨by rfl, fun w hw => by dsimp only at hw; go_simp⟩) hHeld ?_
         simp only [Act.put, p2, p3, p4]
         refine tk 25 63 (.int .i64 (((t.size - d.size : Nat) : Int))) rfl (by kernel_rfl) (fun _ _ _ h => h) (.inl ⟨by rfl, fun w hw => by dsimp only at hw; go_simp⟩) hHeld ?_
         simp only [Act.put, p2, p3, p4]
         refine tk 26 64 (.string (t.extract (t.size - d.size) t.size)) rfl (by kernel_rfl) (fun _ _ _ h => h) (.inl ⟨by rfl, fun w hw => by dsimp only at hw; go_simp⟩) hHeld ?_
         simp only [Act.put, p2, p3, p4]
         refine tk 27 65 (.pointer (some ⟨x, 4, none⟩)) rfl (by kernel_rfl) (fun _ _ _ h => h) (.inl ⟨by rfl, fun w hw => by dsimp only at hw; go_simp⟩) hHeld ?_
         simp only [Act.put, p2, p3, p4]
         refine tk 28 66 (.string (d)) rfl (by kernel_rfl) (fun _ _ _ h => h) (.inl ⟨by rfl, fun w hw => by dsimp only at hw; go_simp⟩) hHeld ?_
         simp only [Act.put, p2, p3, p4]
         refine tk 29 67 (.bool (false)) rfl (by kernel_rfl) (fun _ _ _ h => h) (.inl ⟨by rfl, fun w hw => by dsimp only at hw; go_simp⟩) hHeld ?_
         simp only [Act.put, p2, p3, p4]
         refine tk 30 68 (.bool (false)) rfl (by kernel_rfl) (fun _ _ _ h => h) (.inl ⟨by rfl, fun w hw => by dsimp only at hw; go_simp⟩) hHeld ?_
         simp only [Act.put, p2, p3, p4]
         refine tk 31 4 (.bool (false)) rfl (by kernel_rfl) (fun _ _ _ h => h) (.inl ⟨by rfl, fun w hw => by dsimp only at hw; go_simp⟩) hHeld ?_
         simp only [Act.put, p2, p3, p4]
         refine wpAnyH_done (by kernel_rfl) ?_ _
         go_wp2_with fail
         go_ret
         exact ⟨ret_bool HR2.out.symm, HF2.out⟩
        ·
         have hqn := (hy _ _ _ hq).1 rfl
         have HR2 : Hid (R = true) := Lib.hid (by rw [HR.out, hq])
         clear HR hq hy
         refine wp_region_held_drew (S := fun w' => w'.cell? ⟨x, 0, none⟩ = some (.int .i64 (l)) ∧ w'.cell? ⟨x, 1, none⟩ = some (.int .i64 (h)) ∧ w'.cell? ⟨x, 2, none⟩ = some (.int .i64 (c)) ∧ w'.cell? ⟨x, 3, none⟩ = some (.string (b)) ∧ w'.cell? ⟨x, 4, none⟩ = some (.string (d))) (by kernel_rfl) ⟨a0, a1, a2, a3, a4⟩ (fun hHeld => ?_)
         refine tk 0 38 (.string (t)) rfl (by kernel_rfl) (fun _ _ _ h => h) (.inl ⟨by rfl, fun w hw => by dsimp only at hw; go_simp⟩) hHeld ?_
         simp only [Act.put, p2, p3, p4]
         refine tk 2 40 (.pointer (some ⟨x, 2, none⟩)) rfl (by kernel_rfl) (fun _ _ _ h => h) (.inl ⟨by rfl, fun w hw => by dsimp only at hw; go_simp⟩) hHeld ?_
         simp only [Act.put, p2, p3, p4]
         refine tk 3 41 (.int .i64 (c)) rfl (by kernel_rfl) (fun _ _ _ h => h) (.inl ⟨by rfl, fun w hw => by dsimp only at hw; go_simp⟩) hHeld ?_
         simp only [Act.put, p2, p3, p4]
         refine tk 5 43 (.string (t)) rfl (by kernel_rfl) (fun _ _ _ h => h) (.inl ⟨by rfl, fun w hw => by dsimp only at hw; go_simp⟩) hHeld ?_
         simp only [Act.put, p2, p3, p4]
         refine wpAnyH_ready (rs := [1]) (by kernel_rfl) (by simp) ?_
         refine AllReadyH.cons (o := ⟨some 39, _, _, _, _, _⟩) rfl (fun K hK => ?_) AllReadyH.nil
         go_simp
         refine (Hbi.out _).mono ?_
         rintro e V1 ⟨rfl, rfl⟩
         refine hK.out _ _ hHeld (fun hHeld => ?_)
         clear hK K
         refine tk 4 42 (.int .i64 (bits .and .i64 (bitsI t.data.toList : Int) (c : Int))) rfl (by kernel_rfl) (fun _ _ _ h => h) (.inl ⟨by rfl, fun w hw => by dsimp only at hw; go_simp⟩) hHeld ?_
         simp only [Act.put, p2, p3, p4]
         refine wpAnyH_ready (rs := [6]) (by kernel_rfl) (by simp) ?_
         refine AllReadyH.cons (o := ⟨some 44, _, _, _, _, _⟩) rfl (fun K hK => ?_) AllReadyH.nil
         go_simp
         refine (Hbi.out _).mono ?_
         rintro e V2 ⟨rfl, rfl⟩
         refine hK.out _ _ hHeld (fun hHeld => ?_)
         clear hK K
         refine tk 7 45 (.bool (true)) rfl (by kernel_rfl) (fun _ _ _ h => h) (.inl ⟨by rfl, fun w hw => by dsimp only at hw; go_simp⟩) hHeld ?_
         simp only [Act.put, p2, p3, p4]
         refine tk 8 46 (.bool (true)) rfl (by kernel_rfl) (fun _ _ _ h => h) (.inl ⟨by rfl, fun w hw => by dsimp only at hw; go_simp⟩) hHeld ?_
         simp only [Act.put, p2, p3, p4]
         refine tk 9 47 (.string (t)) rfl (by kernel_rfl) (fun _ _ _ h => h) (.inl ⟨by rfl, fun w hw => by dsimp only at hw; go_simp⟩) hHeld ?_
         simp only [Act.put, p2, p3, p4]
         refine tk 10 48 (.pointer (some ⟨x, 3, none⟩)) rfl (by kernel_rfl) (fun _ _ _ h => h) (.inl ⟨by rfl, fun w hw => by dsimp only at hw; go_simp⟩) hHeld ?_
         simp only [Act.put, p2, p3, p4]
         refine tk 11 49 (.string (b)) rfl (by kernel_rfl) (fun _ _ _ h => h) (.inl ⟨by rfl, fun w hw => by dsimp only at hw; go_simp⟩) hHeld ?_
         simp only [Act.put, p2, p3, p4]
         refine tk 12 50 (.int .i64 (((b).size : Int))) rfl (by kernel_rfl) (fun _ _ _ h => h) (.inl ⟨by rfl, fun w hw => by dsimp only at hw; go_simp⟩) hHeld ?_
         simp only [Act.put, p2, p3, p4]
         refine tk 13 51 (.string (t.extract 0 b.size)) rfl (by kernel_rfl) (fun _ _ _ h => h) (.inl ⟨by rfl, fun w hw => by dsimp only at hw; go_simp⟩) hHeld ?_
         simp only [Act.put, p2, p3, p4]
         refine tk 14 52 (.pointer (some ⟨x, 3, none⟩)) rfl (by kernel_rfl) (fun _ _ _ h => h) (.inl ⟨by rfl, fun w hw => by dsimp only at hw; go_simp⟩) hHeld ?_
         simp only [Act.put, p2, p3, p4]
         refine tk 15 53 (.string (b)) rfl (by kernel_rfl) (fun _ _ _ h => h) (.inl ⟨by rfl, fun w hw => by dsimp only at hw; go_simp⟩) hHeld ?_
         simp only [Act.put, p2, p3, p4]
         refine tk 16 54 (.bool (true)) rfl (by kernel_rfl) (fun _ _ _ h => h) (.inl ⟨by rfl, fun w hw => by dsimp only at hw; go_simp⟩) hHeld ?_
         simp only [Act.put, p2, p3, p4]
         refine tk 17 55 (.bool (true)) rfl (by kernel_rfl) (fun _ _ _ h => h) (.inl ⟨by rfl, fun w hw => by dsimp only at hw; go_simp⟩) hHeld ?_
         simp only [Act.put, p2, p3, p4]
         refine tk 18 56 (.bool (true)) rfl (by kernel_rfl) (fun _ _ _ h => h) (.inl ⟨by rfl, fun w hw => by dsimp only at hw; go_simp⟩) hHeld ?_
         simp only [Act.put, p2, p3, p4]
         refine tk 19 57 (.string (t)) rfl (by kernel_rfl) (fun _ _ _ h => h) (.inl ⟨by rfl, fun w hw => by dsimp only at hw; go_simp⟩) hHeld ?_
         simp only [Act.put, p2, p3, p4]
         refine tk 20 58 (.string (t)) rfl (by kernel_rfl) (fun _ _ _ h => h) (.inl ⟨by rfl, fun w hw => by dsimp only at hw; go_simp⟩) hHeld ?_
         simp only [Act.put, p2, p3, p4]
         refine tk 21 59 (.int .i64 (((t).size : Int))) rfl (by kernel_rfl) (fun _ _ _ h => h) (.inl ⟨by rfl, fun w hw => by dsimp only at hw; go_simp⟩) hHeld ?_
         simp only [Act.put, p2, p3, p4]
         refine tk 22 60 (.pointer (some ⟨x, 4, none⟩)) rfl (by kernel_rfl) (fun _ _ _ h => h) (.inl ⟨by rfl, fun w hw => by dsimp only at hw; go_simp⟩) hHeld ?_
         simp only [Act.put, p2, p3, p4]
         refine tk 23 61 (.string (d)) rfl (by kernel_rfl) (fun _ _ _ h => h) (.inl ⟨by rfl, fun w hw => by dsimp only at hw; go_simp⟩) hHeld ?_
         simp only [Act.put, p2, p3, p4]
         refine tk 24 62 (.int .i64 (((d).size : Int))) rfl (by kernel_rfl) (fun _ _ _ h => h) (.inl ⟨by rfl, fun w hw => by dsimp only at hw; go_simp⟩) hHeld ?_
         simp only [Act.put, p2, p3, p4]
         refine tk 25 63 (.int .i64 (((t.size - d.size : Nat) : Int))) rfl (by kernel_rfl) (fun _ _ _ h => h) (.inl ⟨by rfl, fun w hw => by dsimp only at hw; go_simp⟩) hHeld ?_
         simp only [Act.put, p2, p3, p4]
         refine tk 26 64 (.string (t.extract (t.size - d.size) t.size)) rfl (by kernel_rfl) (fun _ _ _ h => h) (.inl ⟨by rfl, fun w hw => by dsimp only at hw; go_simp⟩) hHeld ?_
         simp only [Act.put, p2, p3, p4]
         refine tk 27 65 (.pointer (some ⟨x, 4, none⟩)) rfl (by kernel_rfl) (fun _ _ _ h => h) (.inl ⟨by rfl, fun w hw => by dsimp only at hw; go_simp⟩) hHeld ?_
         simp only [Act.put, p2, p3, p4]
         refine tk 28 66 (.string (d)) rfl (by kernel_rfl) (fun _ _ _ h => h) (.inl ⟨by rfl, fun w hw => by dsimp only at hw; go_simp⟩) hHeld ?_
         simp only [Act.put, p2, p3, p4]
         refine tk 29 67 (.bool (true)) rfl (by kernel_rfl) (fun _ _ _ h => h) (.inl ⟨by rfl, fun w hw => by dsimp only at hw; go_simp⟩) hHeld ?_
         simp only [Act.put, p2, p3, p4]
         refine tk 30 68 (.bool (true)) rfl (by kernel_rfl) (fun _ _ _ h => h) (.inl ⟨by rfl, fun w hw => by dsimp only at hw; go_simp⟩) hHeld ?_
         simp only [Act.put, p2, p3, p4]
         refine tk 31 4 (.bool (true)) rfl (by kernel_rfl) (fun _ _ _ h => h) (.inl ⟨by rfl, fun w hw => by dsimp only at hw; go_simp⟩) hHeld ?_
         simp only [Act.put, p2, p3, p4]
         refine wpAnyH_done (by kernel_rfl) ?_ _
         go_wp2_with fail
         go_ret
         exact ⟨ret_bool HR2.out.symm, HF2.out⟩
theorem some_ba (a : Shp) (n : Nat) : ∃ S : ByteArray, strV (someV a n).1 = .string S ∧ S.data.toList = (someV a n).1 := ⟨⟨(someV a n).1.toArray⟩, rfl, rfl⟩
set_option maxRecDepth 100000 in
set_option maxHeartbeats 4000000 in
theorem samp_any (a : Shp) (n : Int) (hn : -9223372036854775808 ≤ n ∧ n ≤ 9223372036854775807) (hb : a.bg.size ≤ 300) (hd : a.en.size ≤ 300) (w : World) : Calls Tryz.prog 6 #[shV a, .int .i64 n] w fun e w' => e = .returned (.tuple #[strV (sampV a n).1, .bool (sampV a n).2]) ∧ Frm (fun _ => False) w w' := by
 have hlow := rleast_any a
 have hhigh := rmost_any a
 have hsm := fun (n : Nat) (hn : n ≤ 1000) => some_any a n hn (by omega) (by omega)
 have hsl := someV_len a
 have hcn := rcon_any a
 have hsb := some_ba a
 have hR : sampV a n = if highS a < lowS a then ([], false) else ((someV a (lowS a + n % (min (highS a - lowS a) 12 + 1)).toNat).1, (someV a (lowS a + n % (min (highS a - lowS a) 12 + 1)).toNat).2 && inS a (someV a (lowS a + n % (min (highS a - lowS a) 12 + 1)).toNat).1) := rfl
 have hL0 : 0 ≤ lowS a := by unfold lowS; omega
 have hH2 : highS a ≤ 200 := by unfold highS; omega
 generalize sampV a n = R at *
 generalize lowS a = L at *
 generalize highS a = H at *
 generalize someV a = f at *
 obtain ⟨Z, hZ⟩ : ∃ Z, Z = inS a := ⟨_, rfl⟩
 rw [← hZ] at hR hcn
 clear hZ
 obtain ⟨l, h, c, b, d⟩ := a
 unfold shV at *
 simp only at hlow hhigh hsm hcn hb hd ⊢
 have Hlow := Lib.hid hlow
 have Hhigh := Lib.hid hhigh
 have HR := Lib.hid hR
 have Hsm := Lib.hid hsm
 have Hsl := Lib.hid hsl
 have Hcn := Lib.hid hcn
 have Hsb := Lib.hid hsb
 clear hlow hhigh hR hsm hsl hcn hsb
 go_enter Tryz.func6, Tryz.ntmps6
 go_upto_region 1 with fail
 obtain ⟨W1, x, hW, hx, hf, a0, a1, a2, a3, a4⟩ := one_sh w l h c b d
 rw [hW, hx]
 have HF := Lib.hid hf
 clear hW hx hf
 go_wp2_with fail
 refine (Hlow.out _).mono ?_
 rintro e V1 ⟨rfl, f1⟩
 have b0 := f1.cell a0 (fun h => h)
 have b1 := f1.cell a1 (fun h => h)
 have b2 := f1.cell a2 (fun h => h)
 have b3 := f1.cell a3 (fun h => h)
 have b4 := f1.cell a4 (fun h => h)
 have HF1 := Lib.hid (HF.out.trans f1)
 clear f1 HF a0 a1 a2 a3 a4
 go_wp2_with fail
 refine (Hhigh.out _).mono ?_
 rintro e V2 ⟨rfl, f2⟩
 have a0 := f2.cell b0 (fun h => h)
 have a1 := f2.cell b1 (fun h => h)
 have a2 := f2.cell b2 (fun h => h)
 have a3 := f2.cell b3 (fun h => h)
 have a4 := f2.cell b4 (fun h => h)
 have HF2 := Lib.hid (HF1.out.trans f2)
 clear f2 HF1 b0 b1 b2 b3 b4 Hlow Hhigh
 by_cases hHL : H < L
 ·
  have hr := HR.out
  rw [if_pos hHL] at hr
  have Hr := Lib.hid hr
  clear hr HR
  go_wp2_with fail
  exact bodyPost_ret (results_tmp2 rfl _ _ _) rfl ⟨by rw [Hr.out]; rfl, HF2.out⟩
 ·
  have hr := HR.out
  rw [if_neg hHL] at hr
  have hm1 : 1 ≤ min (H - L) 12 + 1 := by omega
  have hm2 : min (H - L) 12 + 1 ≤ 13 := by omega
  have e1 := Int.emod_lt_of_pos n (b := min (H - L) 12 + 1) (by omega)
  have e2 := Int.emod_nonneg n (b := min (H - L) 12 + 1) (by omega)
  have hmod := mod_any n (min (H - L) 12 + 1)
  have Hmod := Lib.hid fun W => hmod W (by omega) (by omega) hn.1 hn.2
  have w1 : IntKind.i64.wrap (H - L) = H - L := IntWalk.i64_in _ (by omega)
  have w2 : IntKind.i64.wrap (min (H - L) 12 + 1) = min (H - L) 12 + 1 := IntWalk.i64_in _ (by omega)
  obtain ⟨k, hk⟩ : ∃ k : Nat, L + n % (min (H - L) 12 + 1) = (k : Int) := ⟨(L + n % (min (H - L) 12 + 1)).toNat, by omega⟩
  have hk200 : k ≤ 200 := by omega
  rw [hk, Int.toNat_natCast] at hr
  have Hr := Lib.hid hr
  have Hk := Lib.hid hk
  generalize n % (min (H - L) 12 + 1) = y at *
  clear hr HR hmod e1 e2
  go_wp2_with fail
  refine (Hmod.out _).mono ?_
  rintro e V3 ⟨rfl, rfl⟩
  have w3 : IntKind.i64.wrap (L + y) = (k : Int) := by rw [hk]; exact IntWalk.i64_in _ (by omega)
  clear hm1 hm2 w1 w2
  go_wp2_with fail
  refine (Hsm.out k (by omega) _).mono ?_
  rintro e V4 ⟨rfl, f4⟩
  obtain ⟨S, hS, hSd⟩ := Hsb.out k
  have hSz : S.size ≤ 200 := by rw [← size_list S, hSd]; have := Hsl.out k; omega
  have Hr2 : Hid (R = (S.data.toList, (f k).2 && Z S.data.toList)) := Lib.hid (by rw [Hr.out, hSd])
  rw [hS]
  have d0 := f4.cell a0 (fun h => h)
  have d1 := f4.cell a1 (fun h => h)
  have d2 := f4.cell a2 (fun h => h)
  have d3 := f4.cell a3 (fun h => h)
  have d4 := f4.cell a4 (fun h => h)
  have HF4 := Lib.hid (HF2.out.trans f4)
  have hcS := Hcn.out S (by omega)
  have HcS := Lib.hid hcS
  clear hS hSd f4 hcS a0 a1 a2 a3 a4 HF2 Hr hk w3
  cases hfk : (f k).2
  ·
   rw [hfk] at Hr2
   clear hfk
   go_wp2_with fail
   exact bodyPost_ret (results_tmp2 rfl _ _ _) rfl ⟨by rw [Hr2.out]; rfl, HF4.out⟩
  ·
   rw [hfk] at Hr2
   clear hfk
   go_wp2_with fail
   refine (HcS.out _).mono ?_
   rintro e V5 ⟨rfl, f5⟩
   have HF5 := Lib.hid (HF4.out.trans f5)
   clear f5 HF4
   go_wp2_with fail
   exact bodyPost_ret (results_tmp2 rfl _ _ _) rfl ⟨by rw [Hr2.out]; rfl, HF5.out⟩
end Go.Proofs.YtgnjakaamgeibaaGreatDoor
