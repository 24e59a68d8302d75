/-
  pattern.ends: the ends of the parts that fit a piece, as an iterator. Conditions: the piece is right, the text is short.
-/
import Derived.Test.YtgnjakaamgeibaaDoorRgt
import Derived.Test.YtgnjakaamgeibaaDoorRange2
import Derived.Test.YtgnjakaamgeibaaDoorREnP
import Derived.BigQuiet
import Derived.Deep.QuietTactic
import Derived.Lib.IndexBytes
namespace Go.Proofs.YtgnjakaamgeibaaDoor
open Go.RowKit Go.Shelf
attribute [local go_sem] Oper.semAt_some

theorem ends_any (e : Pc) (s : ByteArray) (i : Nat) (w : World) : Calls Tryd.prog 119 #[pcV e, .string s, .int .i64 i] w fun r w' =>
    r = .returned (.func (.func 131) #[] #[.pointer (some ⟨w.heap.size, 0, none⟩), .pointer (some ⟨w.heap.size + 1, 0, none⟩), .pointer (some ⟨w.heap.size + 1 + 1, 0, none⟩)]) ∧
    w' = ((w.alloc (.cells #[.int .i64 e.cls, .int .i64 e.lo, .int .i64 e.hi, .string e.txt] 53)).alloc (.cells #[.string s] 9)).alloc (.cells #[.int .i64 i] 3) := by
  have hmf : ∀ (fn : Fn) (first cap : Array Value) (w : World), (Instr.makeFunc fn first cap).run Tryd.prog w = .ok (.func fn first cap) w := fun _ _ _ _ => rfl
  unfold pcV
  go_enter Tryd.func119, Tryd.ntmps119
  go_wp2
  go_ret
  exact ⟨rfl, rfl⟩

def encI (j : Nat) : Array Value := #[.int .i64 (j : Int)]
def endsT (pe ps pf : Nat) (e : Pc) (s : ByteArray) (i : Nat) : List Thing := [cellT pe #[.int .i64 e.cls, .int .i64 e.lo, .int .i64 e.hi, .string e.txt] 53, cellT ps #[.string s] 9, cellT pf #[.int .i64 i] 3]
theorem ends_own (e : Pc) (s : ByteArray) (i : Nat) (W : World) : Calls Tryd.prog 119 #[pcV e, .string s, .int .i64 i] W fun r w' =>
    ∃ pe pf pg, r = .returned (.func (.func 131) #[] #[.pointer (some ⟨pe, 0, none⟩), .pointer (some ⟨pf, 0, none⟩), .pointer (some ⟨pg, 0, none⟩)]) ∧ (∀ w0 L, Own w0 L W → Own w0 (L ++ endsT pe pf pg e s i) w') ∧ Frm (fun _ => False) W w' := by
  refine (ends_any e s i W).mono ?_
  rintro r w' ⟨rfl, rfl⟩
  refine ⟨_, _, _, rfl, fun w0 L h => ?_, (((Frm.refl _ _).alloc _).alloc _).alloc _⟩
  have := ((h.box #[.int .i64 e.cls, .int .i64 e.lo, .int .i64 e.hi, .string e.txt] 53).box #[.string s] 9).box #[.int .i64 i] 3
  simp only [World.size_alloc, List.append_assoc] at this
  exact this
structure EndC (w : World) (pe ps pf : Nat) (e : Pc) (s : ByteArray) (i : Nat) : Prop where
  c0 : w.cell? ⟨pe, 0, none⟩ = some (.int .i64 e.cls)
  c1 : w.cell? ⟨pe, 1, none⟩ = some (.int .i64 e.lo)
  c2 : w.cell? ⟨pe, 2, none⟩ = some (.int .i64 e.hi)
  c3 : w.cell? ⟨pe, 3, none⟩ = some (.string e.txt)
  cs : w.cell? ⟨ps, 0, none⟩ = some (.string s)
  cf : w.cell? ⟨pf, 0, none⟩ = some (.int .i64 i)
theorem EndC.of {w0 W : World} {Lm : List Thing} {pe ps pf : Nat} {e : Pc} {s : ByteArray} {i : Nat} (h : Own w0 (Lm ++ endsT pe ps pf e s i) W) : EndC W pe ps pf e s i := by
  have h0 := h.obj (x := pe) (cs := #[.int .i64 e.cls, .int .i64 e.lo, .int .i64 e.hi, .string e.txt]) (t := 53) Lm.length (by simp [endsT])
  have h1 := h.obj (x := ps) (cs := #[.string s]) (t := 9) (Lm.length + 1) (by simp [endsT])
  have h2 := h.obj (x := pf) (cs := #[.int .i64 i]) (t := 3) (Lm.length + 2) (by simp [endsT])
  exact ⟨by rw [cell_of_row W pe 0 _ _ _ h0]; rfl, by rw [cell_of_row W pe 1 _ _ _ h0]; rfl, by rw [cell_of_row W pe 2 _ _ _ h0]; rfl, by rw [cell_of_row W pe 3 _ _ _ h0]; rfl, by rw [cell_of_row W ps 0 _ _ _ h1]; rfl, by rw [cell_of_row W pf 0 _ _ _ h2]; rfl⟩
theorem EndC.drewN {w : World} {pe ps pf : Nat} {e : Pc} {s : ByteArray} {i : Nat} (h : EndC w pe ps pf e s i) (m : Nat) : EndC (w.drewN m) pe ps pf e s i := ⟨h.c0, h.c1, h.c2, h.c3, h.cs, h.cf⟩

set_option maxRecDepth 100000 in
set_option maxHeartbeats 4000000 in
theorem ends_iter (n pe ps pf : Nat) (hn : 1 ≤ n) (e : Pc) (s : ByteArray) (i : Nat) (hi : i ≤ s.size) (hs : s.size ≤ 200) (hp : pieceB e = true) (ht : e.txt.size ≤ 1000000) :
    IterOwn Fence.wide n Tryd.prog 131 #[.pointer (some ⟨pe, 0, none⟩), .pointer (some ⟨ps, 0, none⟩), .pointer (some ⟨pf, 0, none⟩)] encI (endsT pe ps pf e s i) (fun xs => xs = endsL e s.data.toList i) (fun _ => True) (fun pre x => pre ++ [x] <+: endsL e s.data.toList i) := by
  intro l w0 M Mx Lm W hO hM hY
  have hl := size_list s
  refine callsIn_of_wp Tryd.func131 rfl trivial ?_ rfl
  simp only [Tryd.ntmps131, List.size_toArray, List.length_cons, List.length_nil, Nat.reduceAdd, Nat.reduceSub, Array.replicate_succ, Array.replicate_zero, List.push_toArray, List.append_toArray, List.nil_append, List.cons_append]
  by_cases hc : e.cls = 0
  · obtain ⟨c0, c1, c2, c3, cs, cf⟩ := EndC.of hO
    rw [hc] at c0
    have hE := ends_lit (s := s.data.toList) hc (by omega : i ≤ s.data.toList.length)
    have htl := size_list e.txt
    have hpre : Lib.hasPrefix (s.extract i s.size).data.toList e.txt.data.toList = decide (e.t <+: s.data.toList.drop i) := by
      rw [Lib.extract_to_end]
      unfold Lib.hasPrefix
      rw [Bool.eq_iff_iff, List.isPrefixOf_iff_prefix, decide_eq_true_iff]
    by_cases hb : e.t <+: s.data.toList.drop i
    · rw [decide_eq_true hb] at hpre
      rw [if_pos hb] at hE
      have hlen := hb.length_le
      rw [List.length_drop, hl] at hlen
      have HE := Lib.hid hE
      have hpfx : ∀ w1 : World, Calls Tryd.prog 69 #[.string (s.extract i s.size), .string e.txt] w1 fun r w' => r = .returned (.bool true) ∧ w' = w1 := by
        intro w1
        have := Tryd.strings_HasPrefix (s.extract i s.size) e.txt w1
        rw [hpre] at this
        exact this
      have Hpx := Lib.hid hpfx
      have HM := Lib.hid hM
      clear hE hpre hb hpfx hM
      gi_wp2_with fail
      refine wpIn_wide.2 ?_
      go_quiet ((go_at_call 69; exact Calls.quiet_of_same (Hpx.out _)))
      have hO1 := hO.drewN nq
      obtain ⟨fn, tmps, assign, body, hy, hR⟩ := hY [] (i + e.txt.size) (W.drewN nq) Lm _ HM.out hO1 (by rw [HE.out, htl]; exact List.prefix_refl _)
      simp only [encI, Int.natCast_add] at hy
      have hw : IntKind.i64.wrap ((i : Int) + e.txt.size) = (i : Int) + e.txt.size := IntWalk.i64_in _ (by omega)
      have HR := Lib.hid hR
      clear hO hO1 hY hR
      gi_wp2_with fail
      refine HR.out.mono ?_
      rintro r W' (⟨rfl, Lm', hM2, hO2⟩ | ⟨rfl, Lm', hM2, hO2⟩)
      · gi_wp2_with fail
        refine bodyPost_ret (results_none rfl _ _ _) rfl ?_
        exact ⟨⟨_, rfl⟩, .inl ⟨[i + e.txt.size], Lm', _, by rw [HE.out, htl], hM2, hO2⟩⟩
      · gi_wp2_with fail
        refine bodyPost_ret (results_none rfl _ _ _) rfl ?_
        exact ⟨⟨_, rfl⟩, .inr ⟨_, Lm', _, trivial, hM2, hO2⟩⟩
    · rw [decide_eq_false hb] at hpre
      rw [if_neg hb] at hE
      have HE := Lib.hid hE
      have hpfx : ∀ w1 : World, Calls Tryd.prog 69 #[.string (s.extract i s.size), .string e.txt] w1 fun r w' => r = .returned (.bool false) ∧ w' = w1 := by
        intro w1
        have := Tryd.strings_HasPrefix (s.extract i s.size) e.txt w1
        rw [hpre] at this
        exact this
      have Hpx := Lib.hid hpfx
      have HM := Lib.hid hM
      clear hE hpre hb hpfx hM hY
      gi_wp2_with fail
      refine wpIn_wide.2 ?_
      go_quiet ((go_at_call 69; exact Calls.quiet_of_same (Hpx.out _)))
      have hO1 := hO.drewN nq
      gi_wp2_with fail
      refine bodyPost_ret (results_none rfl _ _ _) rfl ?_
      exact ⟨⟨_, rfl⟩, .inl ⟨[], Lm, _, HE.out.symm, HM.out, hO1⟩⟩
  · obtain ⟨r1, r7, r0, rle, rh1, rh, rt⟩ := run_facts hp hc
    have hcells := EndC.of hO
    obtain ⟨c0, c1, c2, c3, cs, cf⟩ := hcells
    have HM := Lib.hid hM
    have HO := Lib.hid hO
    clear hM
    gi_wp2_with fail
    gi_loopw [5] (fun v wr => ∃ (t : Nat) (Lm : List Thing), v = .int .i64 t ∧ M (preE e s.data.toList i t) Lm ∧ Own w0 (Lm ++ endsT pe ps pf e s i) wr ∧ i ≤ t ∧ t ≤ s.size ∧ consB (seg s.data.toList i t) e.cls = true)
      (fun v _ => s.size - (intOf v).toNat)
    case atStart => exact ⟨i, Lm, rfl, by rw [pre_start]; exact HM.out, HO.out, Nat.le_refl _, hi, by rw [seg_nil]; rfl⟩
    case round =>
      clear c0 c1 c2 c3 cs cf HM HO hO
      obtain ⟨t, Lm, rfl, hM, hO, hit, hts, hk⟩ := hrel
      obtain ⟨c0, c1, c2, c3, cs, cf⟩ := EndC.of hO
      have hwt : IntKind.i64.wrap ((t : Int) - i) = (t : Int) - i := IntWalk.i64_in _ (by omega)
      have HM := Lib.hid hM
      have HO := Lib.hid hO
      have Hk := Lib.hid hk
      clear hM hk hO
      by_cases hh : (t : Int) - i ≤ e.hi
      · by_cases hlo : (e.lo : Int) ≤ (t : Int) - i
        · have hfit : fits e (seg s.data.toList i t) = true := by rw [run_fits hc hit (by omega) hh Hk.out, decide_eq_true hlo]
          have hph := pre_hit hit hfit
          have hV : preE e s.data.toList i t ++ [t] <+: endsL e s.data.toList i := by rw [← hph]; exact pre_pre _ _ _ (by omega)
          obtain ⟨fn, tmps, assign, body, hy, hR⟩ := hY _ t wr Lm _ HM.out HO.out hV
          rw [← hph] at hR
          simp only [encI] at hy
          have HR := Lib.hid hR
          clear hV hph hfit hR hY
          gi_wp2_with fail
          refine HR.out.mono ?_
          rintro r W' (⟨rfl, Lm', hM2, hO2⟩ | ⟨rfl, Lm', hM2, hO2⟩)
          · clear c0 c1 c2 c3 cs cf HO
            obtain ⟨c0, c1, c2, c3, cs, cf⟩ := EndC.of hO2
            have HM2 := Lib.hid hM2
            have HO2 := Lib.hid hO2
            clear hM2 hO2 HM HR hy
            gi_wp2_with fail
            by_cases hts2 : t < s.size
            · have hne : ¬ ((t : Int) = (s.size : Int)) := by omega
              have hge : s.data.toList[t]'(by omega) = s[t] := rfl
              have hcs := cons_succ (s := s.data.toList) (k := e.cls) hit (by omega : t < s.data.toList.length)
              rw [Hk.out, Bool.true_and, hge] at hcs
              have hcl : ∀ w1 : World, Calls Tryd.prog 46 #[.int .u8 s[t].toNat] w1 fun r w' => r = .returned (.int .i64 (clsB s[t])) ∧ w' = w1 := fun w1 => (class_any s[t] w1).mono fun _ _ h => ⟨h.1, h.2.symm⟩
              have hot := run_other (e := e) (s := s.data.toList) hc hit (by omega : t < s.data.toList.length)
              rw [hge] at hot
              have Hcl := Lib.hid hcl
              cases hin : insB (clsB s[t]) e.cls
              · have hia : ∀ w1 : World, Calls Tryd.prog 132 #[.int .i64 (clsB s[t]), .int .i64 e.cls] w1 fun r w' => r = .returned (.bool false) ∧ w' = w1 := fun w1 => (inside_any (clsB s[t]) e.cls w1).mono fun _ _ h => ⟨by rw [← hin]; exact h.1, h.2.symm⟩
                have hall := pre_all (by omega) (hot hin)
                have Hia := Lib.hid hia
                have Hall := Lib.hid hall
                clear hcs hcl hot hin hia hall hge
                refine wpIn_wide.2 ?_
                go_quiet (first | (go_at_call 46; exact Calls.quiet_of_same (Hcl.out _)) | (go_at_call 132; exact Calls.quiet_of_same (Hia.out _)))
                have hOn := HO2.out.drewN nq
                gi_wp2_with fail
                refine bodyPost_ret (results_none rfl _ _ _) rfl ?_
                exact ⟨⟨_, rfl⟩, .inl ⟨_, Lm', _, rfl, by rw [← Hall.out]; exact HM2.out, hOn⟩⟩
              · have hia : ∀ w1 : World, Calls Tryd.prog 132 #[.int .i64 (clsB s[t]), .int .i64 e.cls] w1 fun r w' => r = .returned (.bool true) ∧ w' = w1 := fun w1 => (inside_any (clsB s[t]) e.cls w1).mono fun _ _ h => ⟨by rw [← hin]; exact h.1, h.2.symm⟩
                rw [hin] at hcs
                have Hcs := Lib.hid hcs
                have Hia := Lib.hid hia
                clear hcs hcl hot hin hia hge
                refine wpIn_wide.2 ?_
                go_quiet (first | (go_at_call 46; exact Calls.quiet_of_same (Hcl.out _)) | (go_at_call 132; exact Calls.quiet_of_same (Hia.out _)))
                have hOn := HO2.out.drewN nq
                gi_wp2_with fail
                refine ⟨⟨t + 1, Lm', by go_num, HM2.out, hOn, by omega, by omega, Hcs.out⟩, ?_⟩
                simp [intOf]
                omega
            · obtain rfl : t = s.size := by omega
              have hall : preE e s.data.toList i (s.size + 1) = endsL e s.data.toList i := by rw [← hl]; rfl
              have Hall := Lib.hid hall
              clear hall
              refine wpIn_wide.2 ?_
              go_quiet (fail)
              have hOn := HO2.out.drewN nq
              gi_wp2_with fail
              refine bodyPost_ret (results_none rfl _ _ _) rfl ?_
              exact ⟨⟨_, rfl⟩, .inl ⟨_, Lm', _, rfl, by rw [← Hall.out]; exact HM2.out, hOn⟩⟩
          · gi_wp2_with fail
            refine bodyPost_ret (results_none rfl _ _ _) rfl ?_
            exact ⟨⟨_, rfl⟩, .inr ⟨_, Lm', _, trivial, hM2, hO2⟩⟩
        · have hfit : fits e (seg s.data.toList i t) = false := by rw [run_fits hc hit (by omega) hh Hk.out, decide_eq_false hlo]
          have hM2 := HM.out
          rw [← pre_miss hfit] at hM2
          have HM2 := Lib.hid hM2
          clear hfit hM2 hY HM
          gi_wp2_with fail
          refine ⟨fun f hf => (by cases hf), ?_⟩
          gi_wp2_with fail
          by_cases hts2 : t < s.size
          · have hne : ¬ ((t : Int) = (s.size : Int)) := by omega
            have hge : s.data.toList[t]'(by omega) = s[t] := rfl
            have hcs := cons_succ (s := s.data.toList) (k := e.cls) hit (by omega : t < s.data.toList.length)
            rw [Hk.out, Bool.true_and, hge] at hcs
            have hcl : ∀ w1 : World, Calls Tryd.prog 46 #[.int .u8 s[t].toNat] w1 fun r w' => r = .returned (.int .i64 (clsB s[t])) ∧ w' = w1 := fun w1 => (class_any s[t] w1).mono fun _ _ h => ⟨h.1, h.2.symm⟩
            have hot := run_other (e := e) (s := s.data.toList) hc hit (by omega : t < s.data.toList.length)
            rw [hge] at hot
            have Hcl := Lib.hid hcl
            cases hin : insB (clsB s[t]) e.cls
            · have hia : ∀ w1 : World, Calls Tryd.prog 132 #[.int .i64 (clsB s[t]), .int .i64 e.cls] w1 fun r w' => r = .returned (.bool false) ∧ w' = w1 := fun w1 => (inside_any (clsB s[t]) e.cls w1).mono fun _ _ h => ⟨by rw [← hin]; exact h.1, h.2.symm⟩
              have hall := pre_all (by omega) (hot hin)
              have Hia := Lib.hid hia
              have Hall := Lib.hid hall
              clear hcs hcl hot hin hia hall hge
              refine wpIn_wide.2 ?_
              go_quiet (first | (go_at_call 46; exact Calls.quiet_of_same (Hcl.out _)) | (go_at_call 132; exact Calls.quiet_of_same (Hia.out _)))
              have hOn := HO.out.drewN nq
              gi_wp2_with fail
              refine bodyPost_ret (results_none rfl _ _ _) rfl ?_
              exact ⟨⟨_, rfl⟩, .inl ⟨_, Lm, _, rfl, by rw [← Hall.out]; exact HM2.out, hOn⟩⟩
            · have hia : ∀ w1 : World, Calls Tryd.prog 132 #[.int .i64 (clsB s[t]), .int .i64 e.cls] w1 fun r w' => r = .returned (.bool true) ∧ w' = w1 := fun w1 => (inside_any (clsB s[t]) e.cls w1).mono fun _ _ h => ⟨by rw [← hin]; exact h.1, h.2.symm⟩
              rw [hin] at hcs
              have Hcs := Lib.hid hcs
              have Hia := Lib.hid hia
              clear hcs hcl hot hin hia hge
              refine wpIn_wide.2 ?_
              go_quiet (first | (go_at_call 46; exact Calls.quiet_of_same (Hcl.out _)) | (go_at_call 132; exact Calls.quiet_of_same (Hia.out _)))
              have hOn := HO.out.drewN nq
              gi_wp2_with fail
              refine ⟨⟨t + 1, Lm, by go_num, HM2.out, hOn, by omega, by omega, Hcs.out⟩, ?_⟩
              simp [intOf]
              omega
          · obtain rfl : t = s.size := by omega
            have hall : preE e s.data.toList i (s.size + 1) = endsL e s.data.toList i := by rw [← hl]; rfl
            have Hall := Lib.hid hall
            clear hall
            refine wpIn_wide.2 ?_
            go_quiet (fail)
            have hOn := HO.out.drewN nq
            gi_wp2_with fail
            refine bodyPost_ret (results_none rfl _ _ _) rfl ?_
            exact ⟨⟨_, rfl⟩, .inl ⟨_, Lm, _, rfl, by rw [← Hall.out]; exact HM2.out, hOn⟩⟩
      · have hfin := pre_all (by omega) (run_far (e := e) (s := s.data.toList) hc (by omega : e.hi < (t : Int) - i))
        have Hfin := Lib.hid hfin
        clear hfin
        gi_wp2_with fail
        go_end0
        exact ⟨⟨_, rfl⟩, .inl ⟨Lm, by rw [← Hfin.out]; exact HM.out, _, HO.out⟩⟩
end Go.Proofs.YtgnjakaamgeibaaDoor
