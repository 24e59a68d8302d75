/-
  Parts of the reference: what its code does. Conditions: the layout is within reach.
-/
import Derived.Test.YtmpfgdpicbpedaaDoorRTxt
import Derived.Deep.OwnRows
import Derived.Maps.AppendAt
namespace Go.Proofs.YtmpfgdpicbpedaaDoor
open Go.RowKit Go.Shelf
attribute [local go_sem] Oper.semAt_some

/-- How many bytes the reference takes. -/
def refN (l : List UInt8) : Nat := if fY.isPrefixOf l then 4 else if fMM.isPrefixOf l || fDD.isPrefixOf l then 2 else 1
theorem take_pre {p l : List UInt8} (h : p.isPrefixOf l = true) : l.take p.length = p := by
  obtain ⟨t, rfl⟩ := List.isPrefixOf_iff_prefix.1 h
  simp
theorem fst_ref (l : List UInt8) : fst l = l.take (refN l) := by
  unfold fst refN
  cases hY : fY.isPrefixOf l
  · cases hMM : fMM.isPrefixOf l
    · cases hM : fM.isPrefixOf l
      · cases hDD : fDD.isPrefixOf l
        · cases hD : fD.isPrefixOf l
          · simp
          · simp
            exact (take_pre hD).symm
        · simp
          exact (take_pre hDD).symm
      · have hDD : fDD.isPrefixOf l = false := by
          obtain ⟨t, rfl⟩ := List.isPrefixOf_iff_prefix.1 hM
          rfl
        rw [hDD]
        simp
        exact (take_pre hM).symm
    · simp
      exact (take_pre hMM).symm
  · simp
    exact (take_pre hY).symm
theorem refN_le {l : List UInt8} (h : l ≠ []) : 1 ≤ refN l ∧ refN l ≤ l.length := by
  have h1 := fst_len h
  rw [fst_ref, List.length_take] at h1
  have hn : 1 ≤ refN l := by unfold refN; split <;> (try split) <;> decide
  refine ⟨hn, ?_⟩
  have hp : ∀ p : List UInt8, p.isPrefixOf l = true → p.length ≤ l.length := by
    intro p hp
    obtain ⟨t, rfl⟩ := List.isPrefixOf_iff_prefix.1 hp
    simp
  have hl : 1 ≤ l.length := by omega
  unfold refN
  split
  · rename_i hY
    exact hp fY hY
  · split
    · rename_i hb
      simp only [Bool.or_eq_true] at hb
      rcases hb with hb | hb
      · exact hp fMM hb
      · exact hp fDD hb
    · exact hl

/-! ### Lists of strings that a call owns -/
def Strs (w : World) (v : Value) (l : List (List UInt8)) : Prop := w.ownsRow 0 9 1 v l.length (l.map strV)
theorem Strs.frm {w w' : World} {v : Value} {l : List (List UInt8)} {F : Nat → Prop} (h : Strs w v l) (hf : Frm F w w') (hF : ∀ k, Blk v k → ¬ F k) : Strs w' v l := ownsRow_frm h hf hF
theorem Strs.form {w : World} {v : Value} {l : List (List UInt8)} (h : Strs w v l) : ∃ ao cap, v = .slice ao l.length cap := by
  rcases h.2 with ⟨rfl, h0⟩ | ⟨g, cap, cur, rfl, -⟩
  · exact ⟨_, _, by rw [h0]⟩
  · exact ⟨_, _, rfl⟩
theorem str_info : ∃ i : TypeInfo, Tryd.prog.info? 9 = some i ∧ i.zero = some (.string ⟨#[]⟩) ∧ i.size = 1 ∧ i.bytes = 16 := by
  obtain ⟨i, h1, h2, h3, h4⟩ := info_parts (show (Tryd.prog.info? 9).map (fun i => (i.zero, i.size, i.bytes)) = some (some (.string ⟨#[]⟩), 1, 16) by kernel_rfl)
  exact ⟨i, h1, h2, h3, h4⟩

/-- 'append(v, x)' where x lies in a list of one that has just been made. -/
theorem run_append_strs {w : World} (ty : TypeId) (v vs : Value) (n : Nat) (xs : List Value) (l : List (List UInt8)) (hown : w.ownsRow 0 9 1 v n xs) (hsrc : w.ownsRow 0 9 1 vs l.length (l.map strV)) (hb : (n + l.length) * 16 ≤ 140737488355328) (hm : n + l.length ≤ maxLen) :
    ∃ v' w', (Builtin.append_ #[43, 43] ty #[v, vs]).run Tryd.prog w = .ok v' w' ∧ w'.ownsRow 0 9 1 v' (n + l.length) (xs ++ l.map strV) ∧ Frm (Blk v) w w' ∧ (∀ k, Blk v' k → Blk v k ∨ w.heap.size ≤ k) := by
  obtain ⟨i0, hi, hz0, hz1, hz2⟩ := str_info
  rcases hsrc.2 with ⟨rfl, h0⟩ | ⟨g, cap, cur, rfl, -, hg, -⟩
  · have hl : l = [] := List.eq_nil_of_length_eq_zero h0
    subst hl
    have hr := run_append_owned_none (P := Tryd.prog) (w := w) 0 43 ty 9 i0 1 Tryd.underlying43 hi v n xs hown
    exact ⟨v, w, hr, by simpa using hown, Frm.refl _ _, fun k hk => .inl hk⟩
  · have hc := hsrc.cells (g := g) rfl
    obtain ⟨v', w', hr, h1, h2, -, h4⟩ := run_append_own_at (P := Tryd.prog) (w := w) 0 43 ty 9 i0 (.string ⟨#[]⟩) 1 16 Tryd.underlying43 hi hz0 hz1 hz2 rfl (by decide) v n xs hown ⟨g, 0, none⟩ l.length cap (l.map strV) (by simp) hc (by intro u hu; obtain ⟨r, -, rfl⟩ := List.mem_map.1 hu; rfl) hm hb (Nat.zero_le _)
    refine ⟨v', w', hr, h1, Frm.of_grown h2 (fun k e => e), fun k hk => ?_⟩
    rcases h4 with e | e
    · refine .inl ?_
      show v.ownBlock = some k
      rw [← e]
      exact hk
    · right
      have : some w.heap.size = some k := by rw [← e]; exact hk
      injection this with this
      omega
end Go.Proofs.YtmpfgdpicbpedaaDoor
