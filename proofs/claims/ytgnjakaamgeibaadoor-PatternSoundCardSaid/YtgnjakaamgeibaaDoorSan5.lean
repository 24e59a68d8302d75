/-
  The sanity of the laws of layer 5. Conditions: the laid tables.
-/
import Derived.Test.YtgnjakaamgeibaaDoorPar
import Derived.Test.YtgnjakaamgeibaaDoorRPar
import Derived.Test.YtgnjakaamgeibaaDoorFdc
import Derived.Test.YtgnjakaamgeibaaDoorCov2
namespace Go.Proofs.YtgnjakaamgeibaaDoor
open Go.RowKit Go.Shelf
attribute [local go_sem] Oper.semAt_some

theorem read_any {s : ByteArray} {rs : List Pc} (hs : s.size ≤ 60) (h : NParse [] s.data.toList rs) (w : World) : Calls Tryd.prog 78 #[.string s] w fun e w' => ∃ v, e = .returned v ∧ Pcs w' v rs ∧ Frm (fun _ => False) w w' := by
  have H := Lib.hid (rparse_any hs h w)
  clear h
  go_enter Tryd.func78, Tryd.ntmps78
  go_wp2_with fail
  refine H.out.mono ?_
  rintro e w' ⟨v, rfl, hP, hf⟩
  go_wp2_with fail
  go_ret
  exact ⟨_, rfl, hP, hf⟩
theorem fails_any {s : ByteArray} {n : Nat} {k : Int} (hs : s.size ≤ 60) (h : parseL s.data.toList = .inl (n, k)) (w : World) : Calls Tryd.prog 77 #[.string s, .int .i64 n, .int .i64 k] w fun e w' => e = .returned (.bool true) ∧ Frm (fun _ => False) w w' := by
  have H := Lib.hid (parse_bad h (by omega) w)
  clear h
  have e1 : ((n : Int) == (n : Int)) = true := by rw [beq_iff_eq]
  have e2 : (k == k) = true := by rw [beq_iff_eq]
  go_enter Tryd.func77, Tryd.ntmps77
  go_wp2_with fail
  refine H.out.mono ?_
  rintro e w' ⟨rfl, hf⟩
  go_wp2_with fail
  go_ret
  exact ⟨rfl, hf⟩

def sP1 : List Pc := [⟨1, 4, 4, ⟨#[]⟩⟩, ⟨0, 0, 0, ⟨#[45]⟩⟩, ⟨1, 1, 200, ⟨#[]⟩⟩]
def sQ : List Pc := [⟨2, 1, 1, ⟨#[]⟩⟩, ⟨3, 0, 200, ⟨#[]⟩⟩]
def sD : List Pc := [⟨1, 1, 200, ⟨#[]⟩⟩]
def sA : List Pc := [⟨4, 1, 200, ⟨#[]⟩⟩]
theorem np_q : NParse [] [92, 117, 92, 108, 42] sQ :=
  .run (a := 1) (b := 1) (u := [92, 108, 42]) (by decide) rfl (by intro u h; cases h) (.run (a := 0) (b := 200) (u := []) (by decide) rfl (by intro u h; cases h) (.nil _))
theorem np_d : NParse [] [92, 100, 43] sD := .run (a := 1) (b := 200) (u := []) (by decide) rfl (by intro u h; cases h) (.nil _)
theorem np_a : NParse [] [92, 97, 43] sA := .run (a := 1) (b := 200) (u := []) (by decide) rfl (by intro u h; cases h) (.nil _)
theorem s_parse : parseL [92, 100, 123, 52, 125, 45, 92, 100, 43] = .inr sP1 := by kernel_rfl
theorem s_print : printL sP1 = [92, 100, 123, 52, 125, 45, 92, 100, 43] := by kernel_rfl
theorem s_f1 : parseL [92, 120] = .inl (1, 12) := by kernel_rfl
theorem s_f2 : parseL [97, 43] = .inl (1, 12) := by kernel_rfl
theorem s_f3 : parseL [92, 100, 123, 53, 44, 50, 125] = .inl (2, 3) := by kernel_rfl
theorem s_f4 : parseL [92, 100, 123, 120, 125] = .inl (3, 12) := by kernel_rfl
theorem s_m1 : matchB sQ [65, 98] = true := by kernel_rfl
theorem s_m2 : matchB sQ [65] = true := by kernel_rfl
theorem s_m3 : matchB sQ [65, 66] = false := by kernel_rfl
theorem s_d2 : findO (findsL sD [97, 49, 50, 98, 51, 52, 53]) 2 = (4, 7, true) := by kernel_rfl
theorem s_d3 : findO (findsL sD [97, 49, 50, 98, 51, 52, 53]) 3 = (0, 0, false) := by kernel_rfl
theorem s_c1 : coversB sA sQ = true := by kernel_rfl
theorem s_c2 : coversB sQ sA = false := by kernel_rfl
theorem small_lit {ps : List Pc} (h : ∀ p ∈ ps, p.txt.size ≤ 1) : Small ps := fun p hp => Nat.le_trans (h p hp) (by omega)

set_option maxRecDepth 100000 in
set_option maxHeartbeats 4000000 in
theorem sanity5_any (w : World) (hT : Tabs w) : Calls Tryd.prog 32 #[] w fun e w' => e = .returned (.bool true) ∧ Frm (fun _ => False) w w' := by
  have HT := Lib.hid hT
  clear hT
  have k1 := parse_ok (s := ⟨#[92, 100, 123, 52, 125, 45, 92, 100, 43]⟩) s_parse (by decide)
  have f1 := fails_any (s := ⟨#[92, 120]⟩) (by decide) s_f1
  have f2 := fails_any (s := ⟨#[97, 43]⟩) (by decide) s_f2
  have f3 := fails_any (s := ⟨#[92, 100, 123, 53, 44, 50, 125]⟩) (by decide) s_f3
  have f4 := fails_any (s := ⟨#[92, 100, 123, 120, 125]⟩) (by decide) s_f4
  have q1 := read_any (s := ⟨#[92, 117, 92, 108, 42]⟩) (by decide) np_q
  have q2 := read_any (s := ⟨#[92, 100, 43]⟩) (by decide) np_d
  have q3 := read_any (s := ⟨#[92, 97, 43]⟩) (by decide) np_a
  have K1 := Lib.hid k1
  have F1 := Lib.hid f1
  have F2 := Lib.hid f2
  have F3 := Lib.hid f3
  have F4 := Lib.hid f4
  have Q1 := Lib.hid q1
  have Q2 := Lib.hid q2
  have Q3 := Lib.hid q3
  clear k1 f1 f2 f3 f4 q1 q2 q3
  go_enter Tryd.func32, Tryd.ntmps32
  go_wp2_with fail
  refine (K1.out _).mono ?_
  rintro e w1 ⟨v1, rfl, hP1, g1⟩
  obtain ⟨ao1, cap1, rfl⟩ := hP1.form
  have h3 : ((sP1.length : Int) == 3) = true := rfl
  have hpr := print_any w1 hP1 (small_lit (by decide)) (by decide) (HT.out.frm g1)
  rw [s_print] at hpr
  have Hpr := Lib.hid hpr
  have HP1 := Lib.hid hP1
  clear hpr hP1
  go_wp2_with fail
  refine Hpr.out.mono ?_
  rintro e w2 ⟨rfl, g2⟩
  unfold strV
  have hse : (([92, 100, 123, 52, 125, 45, 92, 100, 43] : List UInt8).toArray) = #[92, 100, 123, 52, 125, 45, 92, 100, 43] := rfl
  rw [hse]
  have G2 := Lib.hid (g1.trans g2)
  clear g1 g2 hse
  go_wp2_with fail
  refine (F1.out _).mono ?_
  rintro e w3 ⟨rfl, g⟩
  have G3 := Lib.hid (G2.out.trans g)
  clear g
  go_wp2_with fail
  refine (F2.out _).mono ?_
  rintro e w4 ⟨rfl, g⟩
  have G4 := Lib.hid (G3.out.trans g)
  clear g
  go_wp2_with fail
  refine (F3.out _).mono ?_
  rintro e w5 ⟨rfl, g⟩
  have G5 := Lib.hid (G4.out.trans g)
  clear g
  go_wp2_with fail
  refine (F4.out _).mono ?_
  rintro e w6 ⟨rfl, g⟩
  have G6 := Lib.hid (G5.out.trans g)
  clear g
  go_wp2_with fail
  refine (Q1.out _).mono ?_
  rintro e w7 ⟨vq, rfl, hQ, g⟩
  have HQ := Lib.hid hQ
  have G7 := Lib.hid (G6.out.trans g)
  clear g hQ
  go_wp2_with fail
  refine (matches_any w7 ⟨#[65, 98]⟩ (by decide) HQ.out (small_lit (by decide)) (by decide) (HT.out.frm G7.out)).mono ?_
  rintro e w8 ⟨rfl, g⟩
  rw [show matchB sQ (⟨#[65, 98]⟩ : ByteArray).data.toList = true from s_m1]
  have G8 := Lib.hid g
  clear g
  go_wp2_with fail
  refine (matches_any w8 ⟨#[65]⟩ (by decide) (HQ.out.still G8.out) (small_lit (by decide)) (by decide) (HT.out.frm (G7.out.trans G8.out))).mono ?_
  rintro e w9 ⟨rfl, g⟩
  rw [show matchB sQ (⟨#[65]⟩ : ByteArray).data.toList = true from s_m2]
  have G9 := Lib.hid (G8.out.trans g)
  clear g
  go_wp2_with fail
  refine (matches_any w9 ⟨#[65, 66]⟩ (by decide) (HQ.out.still G9.out) (small_lit (by decide)) (by decide) (HT.out.frm (G7.out.trans G9.out))).mono ?_
  rintro e w10 ⟨rfl, g⟩
  rw [show matchB sQ (⟨#[65, 66]⟩ : ByteArray).data.toList = false from s_m3]
  have G10 := Lib.hid (G9.out.trans g)
  clear g
  go_wp2_with fail
  refine (Q2.out _).mono ?_
  rintro e w11 ⟨vd, rfl, hD, g⟩
  have G11 := Lib.hid (G10.out.trans g)
  clear g
  go_wp2_with fail
  refine (find_any w11 ⟨#[97, 49, 50, 98, 51, 52, 53]⟩ 2 (by decide) hD (small_lit (by decide)) (by decide) (HT.out.frm (G7.out.trans G11.out))).mono ?_
  rintro e w12 ⟨rfl, g⟩
  rw [show findO (findsL sD (⟨#[97, 49, 50, 98, 51, 52, 53]⟩ : ByteArray).data.toList) 2 = (4, 7, true) from s_d2]
  have G12 := Lib.hid (G11.out.trans g)
  clear g hD
  go_wp2_with fail
  refine (Q2.out _).mono ?_
  rintro e w13 ⟨vd2, rfl, hD, g⟩
  have G13 := Lib.hid (G12.out.trans g)
  clear g
  go_wp2_with fail
  refine (find_any w13 ⟨#[97, 49, 50, 98, 51, 52, 53]⟩ 3 (by decide) hD (small_lit (by decide)) (by decide) (HT.out.frm (G7.out.trans G13.out))).mono ?_
  rintro e w14 ⟨rfl, g⟩
  rw [show findO (findsL sD (⟨#[97, 49, 50, 98, 51, 52, 53]⟩ : ByteArray).data.toList) 3 = (0, 0, false) from s_d3]
  have G14 := Lib.hid (G13.out.trans g)
  clear g hD
  go_wp2_with fail
  refine (Q3.out _).mono ?_
  rintro e w15 ⟨va, rfl, hA, g⟩
  have G15 := Lib.hid (G14.out.trans g)
  clear g
  go_wp2_with fail
  refine (covers_any w15 hA (HQ.out.still G15.out) (small_lit (by decide)) (small_lit (by decide)) (by decide) (by decide) (HT.out.frm (G7.out.trans G15.out))).mono ?_
  rintro e w16 ⟨rfl, g⟩
  rw [s_c1]
  have G16 := Lib.hid (G15.out.trans g)
  clear g hA
  go_wp2_with fail
  refine (Q3.out _).mono ?_
  rintro e w17 ⟨va2, rfl, hA, g⟩
  have G17 := Lib.hid (G16.out.trans g)
  clear g
  go_wp2_with fail
  refine (covers_any w17 (HQ.out.still G17.out) hA (small_lit (by decide)) (small_lit (by decide)) (by decide) (by decide) (HT.out.frm (G7.out.trans G17.out))).mono ?_
  rintro e w18 ⟨rfl, g⟩
  rw [s_c2]
  have G18 := Lib.hid (G7.out.trans (G17.out.trans g))
  clear g hA
  go_wp2_with fail
  go_ret
  exact ⟨rfl, G18.out⟩
end Go.Proofs.YtgnjakaamgeibaaDoor
