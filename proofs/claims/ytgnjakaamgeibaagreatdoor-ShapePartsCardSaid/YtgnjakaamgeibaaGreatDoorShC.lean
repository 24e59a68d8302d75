/-
  shape.pairs as an iterator, shape.common. Conditions: the strings are within reach.
  shape.common. Conditions: the strings are within reach.
-/
import Derived.Test.YtgnjakaamgeibaaGreatDoorSh2
import Derived.Test.YtgnjakaamgeibaaGreatDoorRangeA
import Derived.Test.YtgnjakaamgeibaaGreatDoorBrg
import Derived.Deep.OwnRows
import Derived.RegionIn
namespace Go.Proofs.YtgnjakaamgeibaaGreatDoor
open Go.RowKit Go.Shelf
attribute [local go_sem] Oper.semAt_some
def encB (x : UInt8 × UInt8) : Array Value := #[.int .u8 x.1.toNat, .int .u8 x.2.toNat]
/-- The pairs of bytes, from the beginning or from the end on. -/
def pairL (a b : List UInt8) (back : Bool) : List (UInt8 × UInt8) := if back then a.reverse.zip b.reverse else a.zip b
/-- How many pairs are equal from the beginning on. -/
def eqN : List (UInt8 × UInt8) → Nat
  | [] => 0
  | x :: r => if x.1 = x.2 then eqN r + 1 else 0
theorem eqN_zip : ∀ (a b : List UInt8), eqN (a.zip b) = cpre a b
  | [], b => by simp [eqN, cpre]
  | x :: a, [] => by simp [eqN, cpre]
  | x :: a, y :: b => by
    rw [List.zip_cons_cons, eqN, cpre, eqN_zip a b]
theorem eqN_all : ∀ (l : List (UInt8 × UInt8)), (∀ p ∈ l, p.1 = p.2) → eqN l = l.length
  | [], _ => rfl
  | x :: l, h => by
    rw [eqN, if_pos (h x (by simp)), eqN_all l (fun p hp => h p (by simp [hp]))]
    rfl
theorem eqN_cut : ∀ (l : List (UInt8 × UInt8)) (x : UInt8 × UInt8) (r : List (UInt8 × UInt8)), (∀ p ∈ l, p.1 = p.2) → x.1 ≠ x.2 → eqN (l ++ [x] ++ r) = l.length
  | [], x, r, _, hx => by
    show eqN (x :: r) = 0
    rw [eqN, if_neg hx]
  | y :: l, x, r, h, hx => by
    show eqN (y :: (l ++ [x] ++ r)) = l.length + 1
    rw [eqN, if_pos (h y (by simp)), eqN_cut l x r (fun p hp => h p (by simp [hp])) hx]
theorem prs_len (a b : List UInt8) (back : Bool) : (pairL a b back).length = min a.length b.length := by
  unfold pairL
  cases back <;> simp
theorem prs_eq (a b : List UInt8) : eqN (pairL a b false) = cpre a b ∧ eqN (pairL a b true) = csuf a b := ⟨eqN_zip a b, eqN_zip _ _⟩
theorem prs_at (a b : ByteArray) (back : Bool) (k : Nat) (ha : k < a.size) (hb : k < b.size) : (pairL a.data.toList b.data.toList back)[k]? = some (if back then (a[a.size - 1 - k], b[b.size - 1 - k]) else (a[k], b[k])) := by
  have ga : ∀ j (h : j < a.size), a.data.toList[j]? = some a[j] := fun j h => by
    rw [List.getElem?_eq_getElem (by rw [size_list]; exact h)]; rfl
  have gb : ∀ j (h : j < b.size), b.data.toList[j]? = some b[j] := fun j h => by
    rw [List.getElem?_eq_getElem (by rw [size_list]; exact h)]; rfl
  unfold pairL
  cases back
  · simp only [Bool.false_eq_true, if_false]
    rw [List.getElem?_zip_eq_some]
    exact ⟨ga k ha, gb k hb⟩
  · simp only [if_true]
    rw [List.getElem?_zip_eq_some]
    refine ⟨?_, ?_⟩
    · rw [List.getElem?_reverse (by rw [size_list]; exact ha), size_list]; exact ga _ (by omega)
    · rw [List.getElem?_reverse (by rw [size_list]; exact hb), size_list]; exact gb _ (by omega)
theorem take_more {α : Type} {F : List α} {k : Nat} {x : α} (h : F[k]? = some x) : F.take (k + 1) = F.take k ++ [x] := by
  rw [List.take_add_one, h]
  rfl
def pairT (pa pb pk : Nat) (a b : ByteArray) (back : Bool) : List Thing := [cellT pa #[.string a] 9, cellT pb #[.string b] 9, cellT pk #[.bool back] 4]
theorem pairs_own (a b : ByteArray) (back : Bool) (W : World) : Calls Tryz.prog 67 #[.string a, .string b, .bool back] W fun r w' =>
    ∃ pa pb pk, r = .returned (.func (.func 80) #[] #[.pointer (some ⟨pa, 0, none⟩), .pointer (some ⟨pb, 0, none⟩), .pointer (some ⟨pk, 0, none⟩)]) ∧ (∀ w0 L, Own w0 L W → Own w0 (L ++ pairT pa pb pk a b back) w') ∧ Frm (fun _ => False) W w' := by
  have hmf : ∀ (fn : Fn) (first cap : Array Value) (w : World), (Instr.makeFunc fn first cap).run Tryz.prog w = .ok (.func fn first cap) w := fun _ _ _ _ => rfl
  go_enter Tryz.func67, Tryz.ntmps67
  go_wp2
  go_ret
  refine ⟨_, _, _, rfl, fun w0 L h => ?_, (((Frm.refl _ _).alloc _).alloc _).alloc _⟩
  have := ((h.box #[.string a] 9).box #[.string b] 9).box #[.bool back] 4
  simp only [World.size_alloc, List.append_assoc] at this
  exact this
theorem yield_form {e : Ending} {A B : Prop} (h : (e = .returned (.bool true) ∧ A) ∨ (e = .returned (.bool false) ∧ B)) : ∃ q, e = .returned (.bool q) ∧ Hid ((q = true → A) ∧ (q = false → B)) := by
  rcases h with ⟨h, a⟩ | ⟨h, b⟩
  · exact ⟨true, h, Lib.hid ⟨fun _ => a, fun h => Bool.noConfusion h⟩⟩
  · exact ⟨false, h, Lib.hid ⟨fun h => Bool.noConfusion h, fun _ => b⟩⟩
set_option maxRecDepth 100000 in
set_option maxHeartbeats 4000000 in
theorem pairs_iter (n pa pb pk : Nat) (hn1 : 1 ≤ n) {w0 : World} (a b : ByteArray) (back : Bool) (ha : a.size ≤ 9223372036854775807) (hb : b.size ≤ 9223372036854775807) :
    IterAt w0 Fence.wide n Tryz.prog 80 #[.pointer (some ⟨pa, 0, none⟩), .pointer (some ⟨pb, 0, none⟩), .pointer (some ⟨pk, 0, none⟩)] encB (pairT pa pb pk a b back) (fun xs => xs = pairL a.data.toList b.data.toList back) (fun _ => True) (fun pre x => pre ++ [x] <+: pairL a.data.toList b.data.toList back) := by
  intro l M Mx Lm W hO hM hY
  have hpl := prs_len a.data.toList b.data.toList back
  rw [size_list, size_list] at hpl
  have hpa := prs_at a b back
  generalize pairL a.data.toList b.data.toList back = F at *
  refine callsIn_of_wp Tryz.func80 rfl trivial ?_ rfl
  simp only [Tryz.ntmps80, List.size_toArray, List.length_cons, List.length_nil, Nat.reduceAdd, Nat.reduceSub, Array.replicate_succ, Array.replicate_zero, List.push_toArray, List.append_toArray, List.nil_append, List.cons_append]
  have c1 := (hO.cell1 (x := pa) (v := .string a) (t := 9) Lm.length (by simp [pairT])).1
  have c2 := (hO.cell1 (x := pb) (v := .string b) (t := 9) (Lm.length + 1) (by simp [pairT])).1
  have c3 := (hO.cell1 (x := pk) (v := .bool back) (t := 4) (Lm.length + 2) (by simp [pairT])).1
  have HM := Lib.hid hM
  have HO := Lib.hid hO
  have Hpl := Lib.hid hpl
  have Hpa := Lib.hid hpa
  clear hM hO hpl hpa
  gi_wp2_with fail
  gi_loopw [13] (fun v wr => ∃ (k : Nat) (Lm : List Thing), v = .int .i64 k ∧ k ≤ min a.size b.size ∧ Hid (M (F.take k) Lm) ∧ Hid (Own w0 (Lm ++ pairT pa pb pk a b back) wr))
    (fun v _ => min a.size b.size - (intOf v).toNat)
  case atStart => exact ⟨0, Lm, rfl, Nat.zero_le _, HM, HO⟩
  case round =>
    clear HM HO c1 c2 c3
    obtain ⟨k, Lm, rfl, hk, hM, hO⟩ := hrel
    have c1 := (hO.out.cell1 (x := pa) (v := .string a) (t := 9) Lm.length (by simp [pairT])).1
    have c2 := (hO.out.cell1 (x := pb) (v := .string b) (t := 9) (Lm.length + 1) (by simp [pairT])).1
    have c3 := (hO.out.cell1 (x := pk) (v := .bool back) (t := 4) (Lm.length + 2) (by simp [pairT])).1
    by_cases hlt : k < min a.size b.size
    · have hlt' : (k : Int) < min (a.size : Int) (b.size : Int) := by omega
      have hka : k < a.size := by omega
      have hkb : k < b.size := by omega
      have hx := Hpa.out k hka hkb
      cases back
      · simp only [Bool.false_eq_true, if_false] at hx
        obtain ⟨fn, tmps, assign, body, hy, hR⟩ := hY (F.take k) (a[k], b[k]) wr.drew Lm _ hM.out hO.out.drew (by rw [← take_more hx]; exact List.take_prefix _ _)
        simp only [encB] at hy
        have HR := Lib.hid hR
        have hx := Lib.hid hx
        clear hY hR
        have c1D : wr.drew.cell? ⟨pa, 0, none⟩ = some (.string a) := c1
        have c2D : wr.drew.cell? ⟨pb, 0, none⟩ = some (.string b) := c2
        gi_wp2_with fail
        have hmo : Tryz.prog.follows .mixedOrders = true := by kernel_rfl
        gi_region_with_o (refine HR.out.mono ?_; rintro r W' hr; obtain ⟨q, rfl, hq⟩ := yield_form hr; clear hr)
        all_goals
          cases q
          · obtain ⟨Lm', hM2, hO2⟩ := hq.out.2 rfl
            have HM2 := Lib.hid hM2
            have HO2 := Lib.hid hO2
            clear hM2 hO2 hq hy HR
            gi_wp2_with fail
            refine bodyPost_ret (results_none rfl _ _ _) rfl ?_
            exact ⟨⟨_, rfl⟩, .inr ⟨_, Lm', _, trivial, HM2.out, HO2.out⟩⟩
          · obtain ⟨Lm', hM2, hO2⟩ := hq.out.1 rfl
            rw [← take_more hx.out] at hM2
            have HM2 := Lib.hid hM2
            have HO2 := Lib.hid hO2
            clear hM2 hO2 hq hy HR
            gi_wp2_with fail
            refine ⟨⟨k + 1, Lm', by go_num, by omega, HM2, HO2⟩, ?_⟩
            simp [intOf]
            omega
      · simp only [if_true] at hx
        obtain ⟨ja, hja⟩ : ∃ j : Nat, j = a.size - 1 - k := ⟨_, rfl⟩
        obtain ⟨jb, hjb⟩ : ∃ j : Nat, j = b.size - 1 - k := ⟨_, rfl⟩
        have qa : ja < a.size := by omega
        have qb : jb < b.size := by omega
        have hx : F[k]? = some (a[ja], b[jb]) := by simp only [hja, hjb]; exact hx
        have w1 : IntKind.i64.wrap ((a.size : Int) - 1) = (a.size : Int) - 1 := IntWalk.i64_in _ (by omega)
        have w2 : IntKind.i64.wrap ((a.size : Int) - 1 - k) = (ja : Int) := by rw [show (a.size : Int) - 1 - k = (ja : Int) by omega]; exact IntWalk.i64_in _ (by omega)
        have w3 : IntKind.i64.wrap ((b.size : Int) - 1) = (b.size : Int) - 1 := IntWalk.i64_in _ (by omega)
        have w4 : IntKind.i64.wrap ((b.size : Int) - 1 - k) = (jb : Int) := by rw [show (b.size : Int) - 1 - k = (jb : Int) by omega]; exact IntWalk.i64_in _ (by omega)
        clear hja hjb
        have hmo : Tryz.prog.follows .mixedOrders = true := by kernel_rfl
        gi_wp2_with fail
        refine wpIn_wide.2 ?_
        go_quiet (fail)
        clear w1 w2 w3 w4
        have c1E : (wr.drewN nq).cell? ⟨pa, 0, none⟩ = some (.string a) := c1
        have c2E : (wr.drewN nq).cell? ⟨pb, 0, none⟩ = some (.string b) := c2
        have hO := Lib.hid (hO.out.drewN nq)
        clear c1 c2 c3
        generalize wr.drewN nq = W2 at *
        have c1D : W2.drew.cell? ⟨pa, 0, none⟩ = some (.string a) := c1E
        have c2D : W2.drew.cell? ⟨pb, 0, none⟩ = some (.string b) := c2E
        obtain ⟨fn, tmps, assign, body, hy, hR⟩ := hY (F.take k) (a[ja], b[jb]) W2.drew Lm _ hM.out hO.out.drew (by rw [← take_more hx]; exact List.take_prefix _ _)
        simp only [encB] at hy
        have HR := Lib.hid hR
        have hx := Lib.hid hx
        clear hY hR
        gi_wp2_with fail
        gi_region_with_o (refine HR.out.mono ?_; rintro r W' hr; obtain ⟨q, rfl, hq⟩ := yield_form hr; clear hr)
        all_goals
          cases q
          · obtain ⟨Lm', hM2, hO2⟩ := hq.out.2 rfl
            have HM2 := Lib.hid hM2
            have HO2 := Lib.hid hO2
            clear hM2 hO2 hq hy HR
            gi_wp2_with fail
            refine bodyPost_ret (results_none rfl _ _ _) rfl ?_
            exact ⟨⟨_, rfl⟩, .inr ⟨_, Lm', _, trivial, HM2.out, HO2.out⟩⟩
          · obtain ⟨Lm', hM2, hO2⟩ := hq.out.1 rfl
            rw [← take_more hx.out] at hM2
            have HM2 := Lib.hid hM2
            have HO2 := Lib.hid hO2
            clear hM2 hO2 hq hy HR
            gi_wp2_with fail
            refine ⟨⟨k + 1, Lm', by go_num, by omega, HM2, HO2⟩, ?_⟩
            simp [intOf]
            omega
    · have hlt' : ¬ (k : Int) < min (a.size : Int) (b.size : Int) := by omega
      have hF : F.take k = F := List.take_of_length_le (by have := Hpl.out; omega)
      have hM2 := hM.out
      rw [hF] at hM2
      have HM2 := Lib.hid hM2
      clear hM hM2 hF hY
      gi_wp2_with fail
      go_end0
      exact ⟨⟨_, rfl⟩, .inl ⟨Lm, HM2.out, _, hO.out⟩⟩
end Go.Proofs.YtgnjakaamgeibaaGreatDoor
namespace Go.Proofs.YtgnjakaamgeibaaGreatDoor
open Go.RowKit Go.Shelf
attribute [local go_sem] Oper.semAt_some
set_option maxRecDepth 100000 in
set_option maxHeartbeats 4000000 in
theorem common_any (w : World) (a b : ByteArray) (back : Bool) (ha : a.size ≤ 9223372036854775807) (hb : b.size ≤ 9223372036854775807) :
    Calls Tryz.prog 42 #[.string a, .string b, .bool back] w fun e w' => e = .returned (.int .i64 (eqN (pairL a.data.toList b.data.toList back))) ∧ Frm (fun _ => False) w w' := by
  have hpl := prs_len a.data.toList b.data.toList back
  rw [size_list, size_list] at hpl
  have hit := fun (pa pb pk : Nat) => pairs_iter 4 pa pb pk (by decide) (w0 := w) a b back ha hb
  generalize hF : pairL a.data.toList b.data.toList back = F at *
  clear hF
  have Hit := Lib.hid hit
  clear hit
  refine callsIn_wide.1 (callsIn_of_wp_marks (n := 5) Tryz.func42 rfl trivial (wpIn_wide.2 ?_) rfl)
  simp only [Tryz.ntmps42, List.size_toArray, List.length_cons, List.length_nil, Nat.reduceAdd, Nat.reduceSub, Array.replicate_succ, Array.replicate_zero, List.push_toArray, List.append_toArray, List.nil_append, List.cons_append]
  go_wp2_with fail
  have h1 := (Own.start w).box #[.int .i64 0] 3
  obtain ⟨W5, hW5⟩ : ∃ W, W = w.alloc (.cells #[.int .i64 0] 3) := ⟨_, rfl⟩
  obtain ⟨cb, hcb⟩ : ∃ b, b = w.heap.size := ⟨_, rfl⟩
  rw [← hW5, ← hcb] at h1
  rw [← hW5, ← hcb]
  clear hW5 hcb
  have h2 : Own w [cellT cb #[.int .i64 ((0 : Nat) : Int)] 3] W5 := h1
  clear h1
  refine (pairs_own a b back W5).mono ?_
  rintro e w6 ⟨pa, pb, pk, rfl, ho, f6⟩
  have h3 := ho _ _ h2
  clear h2 ho f6
  go_wp2_with fail
  refine wpIn_wide.1 (wpIn_range_at (F := Fence.wide) (n := 5) rfl (by decide) (gf := 80) (lb := #[.pointer (some ⟨pa, 0, none⟩), .pointer (some ⟨pb, 0, none⟩), .pointer (some ⟨pk, 0, none⟩)]) rfl trivial (enters_of Tryz.func80 (by kernel_rfl) rfl)
    w (Hit.out pa pb pk) (fun _ => rfl)
    (fun pre X => (∀ p ∈ pre, p.1 = p.2) ∧ X = [cellT cb #[.int .i64 ((pre.length : Nat) : Int)] 3]) (fun cd xs X => cd = .exit 0 ∧ ∃ pre x, xs = pre ++ [x] ∧ xs <+: F ∧ (∀ p ∈ pre, p.1 = p.2) ∧ x.1 ≠ x.2 ∧ X = [cellT cb #[.int .i64 ((pre.length : Nat) : Int)] 3]) _ h3 ⟨fun p hp => absurd hp (by simp), rfl⟩ ?round ?done ?stop)
  case round =>
    rintro l pre x W L' ⟨heq, rfl⟩ hV
    have hlen : pre.length + 1 ≤ F.length := by have := hV.length_le; simpa using this
    dsimp only [encB]
    gi_wp2_with fail
    refine ⟨trivial, ?_⟩
    intro M W2 hO2
    refine wpIn_block ?_
    obtain ⟨x5, y5⟩ := hO2.cell1 (x := cb) (v := .int .i64 pre.length) (t := 3) 0 rfl
    have hu := x.1.toNat_lt
    have hv := x.2.toNat_lt
    by_cases hxx : x.1 = x.2
    · have hO3 := hO2.store (x := cb) (cs := #[.int .i64 pre.length]) (t := 3) 0 rfl 0 (.int .i64 ((pre.length : Int) + 1))
      have HO3 := Lib.hid hO3
      have Hall : Hid (∀ p ∈ pre ++ [x], p.1 = p.2) := Lib.hid fun p hp => by
        rcases List.mem_append.1 hp with h | h
        · exact heq p h
        · rw [List.mem_singleton.1 h]; exact hxx
      rw [hxx]
      clear hO2 hO3 heq hxx hV
      gi_wp2_with fail
      refine ⟨_, ⟨Hall.out, rfl⟩, ?_⟩
      rw [List.length_append, List.length_singleton]
      exact HO3.out
    · have HO2 := Lib.hid hO2
      have hne : ¬ ((x.1.toNat : Int) = (x.2.toNat : Int)) := fun e => hxx (UInt8.toNat_inj.1 (by omega))
      have hne2 : ((x.1.toNat : Int) == (x.2.toNat : Int)) = false := by rw [beq_eq_false_iff_ne]; exact hne
      have HV := Lib.hid hV
      have Heq := Lib.hid heq
      have Hxx := Lib.hid hxx
      clear hO2 heq hV hxx
      gi_wp2_with fail
      exact ⟨_, ⟨rfl, pre, x, rfl, HV.out, Heq.out, Hxx.out, rfl⟩, HO2.out⟩
  case done =>
    rintro D xs W L' M rfl ⟨heq, rfl⟩ hO
    have HO := Lib.hid (own_mark [cellT cb #[.int .i64 ((xs.length : Nat) : Int)] 3] [] M _ hO)
    have z1 := (hO.cell1 (x := cb) (v := .int .i64 xs.length) (t := 3) 0 rfl).1
    have Hres := Lib.hid (eqN_all _ heq)
    clear hO heq hpl Hit
    gi_wp2_with fail
    go_wp2_with fail
    refine leaves_marks (L := [cellT cb #[.int .i64 ((xs.length : Nat) : Int)] 3]) [D] _ HO.out ?_
    intro W' hO'
    exact ⟨.int .i64 (xs.length : Int), by simp [results, Tryz.results42, go_sem], by rw [Hres.out], hO'.frm⟩
  case stop =>
    rintro D c xs W L' M - ⟨rfl, pre, x, rfl, ⟨r, hr⟩, heq, hxx, rfl⟩ hO
    have hres := eqN_cut pre x r heq hxx
    rw [hr] at hres
    have Hres := Lib.hid hres
    have HO := Lib.hid (own_mark [cellT cb #[.int .i64 ((pre.length : Nat) : Int)] 3] [] M _ hO)
    have z1 := (hO.cell1 (x := cb) (v := .int .i64 pre.length) (t := 3) 0 rfl).1
    clear hO heq hxx hr hres Hit hpl
    gi_wp2_with fail
    go_wp2_with fail
    refine leaves_marks (L := [cellT cb #[.int .i64 ((pre.length : Nat) : Int)] 3]) [D] _ HO.out ?_
    intro W' hO'
    exact ⟨.int .i64 (pre.length : Int), by simp [results, Tryz.results42, go_sem], by rw [Hres.out], hO'.frm⟩
end Go.Proofs.YtgnjakaamgeibaaGreatDoor
