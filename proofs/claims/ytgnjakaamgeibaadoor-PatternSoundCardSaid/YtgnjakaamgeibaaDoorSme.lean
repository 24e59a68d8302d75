/-
  The reference's Same on equal patterns; pieces that lie in an argument. Conditions: the pieces lie in memory.
-/
import Derived.Test.YtgnjakaamgeibaaDoorMde
import Derived.BigQuiet
import Derived.Deep.QuietTactic
namespace Go.Proofs.YtgnjakaamgeibaaDoor
open Go.RowKit Go.Shelf
attribute [local go_sem] Oper.semAt_some

set_option maxRecDepth 100000 in
set_option maxHeartbeats 2000000 in
theorem same_any {v v' : Value} {ps : List Pc} (w : World) (hP : Pcs w v ps) (hQ : Pcs w v' ps) (hn : ps.length ≤ 1000) :
    Calls Tryd.prog 39 #[v, v'] w fun e w' => e = .returned (.bool true) ∧ Frm (fun _ => False) w w' := by
  obtain ⟨ao, cap, rfl⟩ := hP.form
  obtain ⟨ao', cap', rfl⟩ := hQ.form
  have HP := Lib.hid hP
  have HQ := Lib.hid hQ
  clear hP hQ
  go_enter Tryd.func39, Tryd.ntmps39
  go_wp2_with fail
  go_loopw [5] (fun sk wr => ∃ k : Nat, sk = .int .i64 k ∧ k ≤ ps.length ∧ Frm (fun _ => False) w wr) (fun sk _ => ps.length - (intOf sk).toNat)
  case atStart => exact ⟨0, rfl, Nat.zero_le _, Frm.refl _ _⟩
  case round =>
    obtain ⟨k, rfl, hk, hf⟩ := hrel
    by_cases hlt : k < ps.length
    · obtain ⟨g, hao, ⟨c0, c1, c2, c3⟩, hg⟩ := (HP.out.still hf).at' k hlt
      obtain ⟨g', hao', ⟨d0, d1, d2, d3⟩, hg'⟩ := (HQ.out.still hf).at' k hlt
      subst hao
      subst hao'
      have hlt' : (k : Int) < (ps.length : Int) := by omega
      generalize ps[k] = p at *
      go_upto_region 6 with fail
      go_quiet (fail)
      have Hf := Lib.hid (hf.drewN nq)
      clear hf
      go_wp2_with fail
      go_roundw
      case rel => exact ⟨k + 1, by go_num, hlt, Hf.out⟩
      case measure => simp [intOf]; omega
    · have hend : ¬ ((k : Int) < (ps.length : Int)) := by omega
      go_wp2_with fail
      go_ret
      exact ⟨rfl, hf⟩

/-- Pieces that lie in an argument. -/
def PcsAt (w : World) (ao : Option Addr) (q : List Pc) : Prop := ∀ i (h : i < q.length), ∃ b o, ao = some ⟨b, o, none⟩ ∧ PcAt w b (o + i * 4) q[i] ∧ q[i].txt.size ≤ 9223372036854775807
def cutP (n : Nat) (p : Pc) : Pc := { p with txt := p.txt.extract 0 (min p.txt.size n) }
def cutL (n m : Nat) (q : List Pc) : List Pc := (q.take m).map (cutP n)
theorem cutL_succ {n k : Nat} {q : List Pc} (h : k < q.length) : cutL n (k + 1) q = cutL n k q ++ [cutP n q[k]] := by
  unfold cutL
  rw [List.take_succ_eq_append_getElem h, List.map_append]
  rfl
theorem cutL_len {n k : Nat} {q : List Pc} (h : k ≤ q.length) : (cutL n k q).length = k := by
  unfold cutL
  rw [List.length_map, List.length_take]
  omega
theorem cutL_small {n m : Nat} {q : List Pc} (hn : n ≤ 1000) : Small (cutL n m q) := by
  intro p hp
  unfold cutL at hp
  obtain ⟨r, -, rfl⟩ := List.mem_map.1 hp
  unfold cutP
  simp only [ByteArray.size_extract]
  omega
theorem cutL_all {n m : Nat} {q : List Pc} (h : q.length ≤ m) : cutL n m q = cutL n q.length q := by
  unfold cutL
  rw [List.take_of_length_le h, List.take_length]
theorem md_small {n : Nat} {ps : List Pc} (h : MdOk n ps) (hn : n ≤ 5) : Small ps ∧ ps.length ≤ 1000 := by
  refine ⟨fun p hp => ?_, ?_⟩
  · have := (h.pc p hp).2; omega
  · have := h.len; omega
end Go.Proofs.YtgnjakaamgeibaaDoor
