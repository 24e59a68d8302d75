/-
  The small functions about journals: short, Many, Same, and the reference journal's New, Fits, Append. Conditions: the lists and the journals lie in memory.
-/
import Derived.Test.YtehdjajeonemoaaJOpen
import Derived.Deep.QuietTactic
import Derived.BigQuiet
namespace Go.Proofs.Ytehdjajeonemoaa
open Go.RowKit

theorem ret_bool {a b : Bool} (h : a = b) : Ending.returned (.bool a) = .returned (.bool b) := by rw [h]
/-- A record of at most 200 bytes. -/
theorem short_any (s : ByteArray) (w : World) (hs : s.size ≤ 9223372036854775807) : Calls Try.prog 43 #[.string s] w fun e w' => (∃ r : ByteArray, e = .returned (.string r) ∧ r.data.toList = s.data.toList.take 200) ∧ w = w' := by
  by_cases h : s.size ≤ 200
  · have hm : s.data.toList.take 200 = s.data.toList := List.take_of_length_le (by rw [size_toList]; exact h)
    have Hm := Lib.hid hm
    clear hm
    go_enter Try.func43, Try.ntmps43
    go_wp2
    go_ret
    exact ⟨⟨s, rfl, Hm.out.symm⟩, rfl⟩
  · have h2 : 200 < s.size := by omega
    have hm : (s.extract 0 200).data.toList = s.data.toList.take 200 := by rw [Lib.extract_data]; simp
    have Hm := Lib.hid hm
    clear hm h
    go_enter Try.func43, Try.ntmps43
    go_wp2
    go_ret
    exact ⟨⟨s.extract 0 200, rfl, Hm.out⟩, rfl⟩

section
variable {w0 w : World} {L : List Thing}
theorem own_many (h : Own w0 L w) {j d : Nat} {J : Jn} (k : Nat) (hk : L[k]? = some (jT j d J)) : Calls Try.prog 45 #[.pointer (some ⟨j, 0, none⟩)] w fun e w' => e = .returned (.int .i64 J.many) ∧ w = w' := by
  obtain ⟨-, -, c2, -⟩ := h.jcells k hk
  go_enter Try.func45, Try.ntmps45
  go_wp2
  go_ret
  exact ⟨rfl, rfl⟩

/-- The reference journal's block. -/
structure Rj where
  broken : Bool
  bytes : Nat
def rT (m : Nat) (vL vM : Value) (J : Rj) : Thing := cellT m #[vL, vM, .bool J.broken, .int .i64 J.bytes] 74
theorem cells4 {w : World} {d : Nat} {c s p x : Value} {t : TypeId} (h : w.heap[d]? = some (.cells #[c, s, p, x] t (0, 0))) :
    w.cell? ⟨d, 0, none⟩ = some c ∧ w.cell? ⟨d, 1, none⟩ = some s ∧ w.cell? ⟨d, 2, none⟩ = some p ∧ w.cell? ⟨d, 3, none⟩ = some x ∧
    w.frozen? ⟨d, 0, none⟩ = false ∧ w.frozen? ⟨d, 1, none⟩ = false ∧ w.frozen? ⟨d, 2, none⟩ = false ∧ w.frozen? ⟨d, 3, none⟩ = false := by
  refine ⟨?_, ?_, ?_, ?_, ?_, ?_, ?_, ?_⟩ <;> first | (rw [cell_of_row w d _ _ t _ h]; rfl) | exact frozen_of_row w d _ _ t h
theorem Own.rcells (h : Own w0 L w) {m : Nat} {vL vM : Value} {J : Rj} (k : Nat) (hk : L[k]? = some (rT m vL vM J)) :
    w.cell? ⟨m, 0, none⟩ = some vL ∧ w.cell? ⟨m, 1, none⟩ = some vM ∧ w.cell? ⟨m, 2, none⟩ = some (.bool J.broken) ∧ w.cell? ⟨m, 3, none⟩ = some (.int .i64 J.bytes) ∧
    w.frozen? ⟨m, 0, none⟩ = false ∧ w.frozen? ⟨m, 1, none⟩ = false ∧ w.frozen? ⟨m, 2, none⟩ = false ∧ w.frozen? ⟨m, 3, none⟩ = false := cells4 (h.obj k hk)

theorem own_rjnew (h : Own w0 L w) : Calls Try.prog 41 #[] w fun e w' => ∃ m, e = .returned (.pointer (some ⟨m, 0, none⟩)) ∧ Own w0 (L ++ [rT m (.slice none 0 0) (.slice none 0 0) ⟨false, 0⟩, strsT (.slice none 0 0) [], strsT (.slice none 0 0) []]) w' := by
  go_enter Try.func41, Try.ntmps41
  go_wp2
  go_ret
  refine ⟨_, rfl, ?_⟩
  have h2 := own_nil (own_nil (h.box #[.slice none 0 0, .slice none 0 0, .bool false, .int .i64 0] 74))
  rw [List.append_assoc, List.append_assoc] at h2
  exact h2

theorem fits_any (m : Nat) (_vL _vM : Value) (J : Rj) (s : ByteArray) (w : World) (c3 : w.cell? ⟨m, 3, none⟩ = some (.int .i64 J.bytes)) (hf : J.bytes + s.size + 16 + 256 ≤ 16777216) :
    Calls Try.prog 64 #[.pointer (some ⟨m, 0, none⟩), .string s] w fun e w' => e = .returned (.bool true) ∧ w = w' := by
  have hd : decide ((J.bytes : Int) + s.size + 16 + 256 ≤ 16777216) = true := by rw [decide_eq_true_iff]; omega
  have h1 : J.bytes ≤ 16777216 := by omega
  have h2 : s.size ≤ 16777216 := by omega
  clear hf
  go_enter Try.func64, Try.ntmps64
  go_wp2
  go_ret
  first | exact ⟨rfl, rfl⟩ | exact ⟨by rw [hd], rfl⟩

/-- The strings of a list, in memory. -/
def StrsAt (w : World) (ao : Option Addr) (l : List (List UInt8)) : Prop := ∀ i (h : i < l.length), ∃ b o, ao = some ⟨b, o, none⟩ ∧ w.cell? ⟨b, o + i, none⟩ = some (strV' l[i])
theorem StrsAt.drewN {w : World} {ao : Option Addr} {l : List (List UInt8)} (h : StrsAt w ao l) (n : Nat) : StrsAt (w.drewN n) ao l := h
theorem Own.strsAt (h : Own w0 L w) (i : Nat) {ao : Option Addr} {n cap : Nat} {l : List (List UInt8)} (hi : L[i]? = some (strsT (.slice ao n cap) l)) : StrsAt w ao l ∧ n = l.length := by
  obtain ⟨hr, -⟩ := h.strs i hi
  obtain ⟨ao', cap', e⟩ := strs_form hr
  injection e with e1 e2 e3
  subst e2
  refine ⟨fun k hk => ?_, rfl⟩
  rcases hr.2 with ⟨e, h0⟩ | ⟨g, c2, cur, e, -⟩
  · omega
  · injection e with e4 e5 e6
    subst e4
    refine ⟨g, 0, rfl, ?_⟩
    have hc := hr.cells (g := g) rfl k (strV' l[k]) (by simp [hk])
    rw [Addr.add_lit, Nat.zero_add] at hc
    rw [Nat.zero_add]
    exact hc

theorem bytes_ne {a b : List UInt8} (h : ¬ a = b) : ((⟨a.toArray⟩ : ByteArray).toList == (⟨b.toArray⟩ : ByteArray).toList) = false := by
  rw [toList_data, toList_data, beq_eq_false_iff_ne]
  exact h
theorem take_more {la lb : List (List UInt8)} {k : Nat} (ht : la.take k = lb.take k) (h1 : k < la.length) (h2 : k < lb.length) (he : la[k] = lb[k]) : la.take (k + 1) = lb.take (k + 1) := by
  rw [List.take_succ_eq_append_getElem h1, List.take_succ_eq_append_getElem h2, ht, he]

set_option maxRecDepth 100000 in
set_option maxHeartbeats 2000000 in
theorem jsame_any (a b : Option Addr) (ca cb : Nat) (la lb : List (List UInt8)) (w : World) (ha : StrsAt w a la) (hb : StrsAt w b lb) (hla : la.length ≤ 9223372036854775807) (_hlb : lb.length ≤ 9223372036854775807) :
    Calls Try.prog 47 #[.slice a la.length ca, .slice b lb.length cb] w fun e w' => e = .returned (.bool (decide (la = lb))) ∧ ∃ n, w' = w.drewN n := by
  by_cases hl : la.length = lb.length
  · have Hl := Lib.hid hl
    have Ha := Lib.hid ha
    have Hb := Lib.hid hb
    rw [← hl]
    clear hl ha hb _hlb
    go_enter Try.func47, Try.ntmps47
    go_wp2
    go_loopw [5] (fun i wr => ∃ k n : Nat, i = .int .i64 k ∧ k ≤ la.length ∧ Hid (la.take k = lb.take k) ∧ wr = w.drewN n) (fun i _ => la.length - (intOf i).toNat)
    case atStart => exact ⟨0, 0, rfl, Nat.zero_le _, rfl, rfl⟩
    case round =>
      obtain ⟨k, n, rfl, hk, ht, rfl⟩ := hrel
      by_cases hlt : k < la.length
      · obtain ⟨ba, oa, rfl, c1⟩ := Ha.out k hlt
        obtain ⟨bb, ob, rfl, c2⟩ := Hb.out k (by rw [← Hl.out]; exact hlt)
        have hlt2 : k < lb.length := by rw [← Hl.out]; exact hlt
        have i0 : (0 : Int) ≤ k := by omega
        have i1 : (k : Int) < la.length := by omega
        by_cases he : la[k] = lb[k]
        · rw [← he] at c2
          unfold strV' at c1 c2
          generalize hx : (⟨(la[k]).toArray⟩ : ByteArray) = x at c1 c2
          have He := Lib.hid he
          clear he hx
          go_wp2_with fail
          go_quiet (fail)
          go_wp2_with fail
          go_roundw
          case rel => exact ⟨k + 1, _, by go_num, hlt, take_more (show _ = _ from ht) hlt hlt2 He.out, rfl⟩
          case measure => simp [intOf]; omega
        · have ht2 := bytes_ne he
          have hne : ¬ la = lb := by
            intro e
            subst e
            exact he rfl
          unfold strV' at c1 c2
          generalize hx : (⟨(la[k]).toArray⟩ : ByteArray) = x at c1 c2 ht2
          generalize hy : (⟨(lb[k]).toArray⟩ : ByteArray) = y at c1 c2 ht2
          have Hne := Lib.hid hne
          clear he hx hy hne
          go_wp2_with fail
          go_quiet (fail)
          go_wp2_with fail
          go_ret
          exact ⟨ret_bool (decide_eq_false Hne.out).symm, _, World.drewN_drewN _ _ _⟩
      · have he : la = lb := by
          have h1 : la.take k = la := List.take_of_length_le (by omega)
          have h2 : lb.take k = lb := List.take_of_length_le (by rw [← Hl.out]; omega)
          rw [← h1, (show la.take k = lb.take k from ht), h2]
        have He := Lib.hid he
        clear he
        go_wp2_with fail
        go_ret
        exact ⟨ret_bool (decide_eq_true He.out).symm, _, rfl⟩
  · have hne : ¬ la = lb := fun e => hl (by rw [e])
    have hd : ((la.length : Int) == lb.length) = false := by
      rw [beq_eq_false_iff_ne]; omega
    have hd2 : ((la.length : Int) != lb.length) = true := by rw [bne, hd]; rfl
    have Hne := Lib.hid hne
    clear hl hne
    go_enter Try.func47, Try.ntmps47
    go_wp2
    go_ret
    exact ⟨ret_bool (decide_eq_false Hne.out).symm, 0, rfl⟩

/-- An append to the reference journal that is there. -/
theorem own_rapp (h : Own w0 L w) {m : Nat} {vL vM : Value} {J : Rj} {l : List (List UInt8)} (k q : Nat) (hk : L[k]? = some (rT m vL vM J)) (hq : L[q]? = some (strsT vL l)) (hkq : k ≠ q) (hb : J.broken = false) (s : ByteArray) (hf : J.bytes + s.size + 16 + 256 ≤ 16777216) (hl : l.length ≤ 1048576) :
    Calls Try.prog 44 #[.pointer (some ⟨m, 0, none⟩), .string s, .bool true] w fun e w' => e = .returned (.int .i64 0) ∧ ∃ v', Own w0 ((L.set q (strsT v' (l ++ [s.data.toList]))).set k (rT m v' vM ⟨false, J.bytes + s.size + 16⟩)) w' := by
  obtain ⟨c0, c1, c2, c3, f0, f1, f2, f3⟩ := h.rcells k hk
  rw [hb] at c2
  obtain ⟨i0, hi, hz0, hz1, hz2⟩ := info_parts Try.info9
  have ho := h.alloc (.cells #[.string s] 9)
  obtain ⟨hrow, hturn⟩ := ho.strs q hq
  have hnews := new_cells w #[.string s] 9 w.heap.size rfl
  have hb1 : (l.length + 1) * 16 ≤ 140737488355328 := by omega
  have hb2 : l.length + 1 ≤ maxLen := by unfold maxLen; omega
  have hs1 : s.size ≤ 16777216 := by omega
  have hs2 : J.bytes ≤ 16777216 := by omega
  have Hz := Lib.hid (And.intro hi (And.intro hz0 (And.intro hz1 hz2)))
  have Hx := Lib.hid (And.intro hb1 (And.intro hb2 (And.intro hnews hrow)))
  have Hturn := Lib.hid hturn
  have Hf := Lib.hid hf
  have Hb := Lib.hid hb
  have Hk := Lib.hid hk
  have Hkq := Lib.hid hkq
  clear hi hz0 hz1 hz2 hb1 hb2 hnews hrow hturn hf hk hq hkq ho hb hl
  go_enter Try.func44, Try.ntmps44
  go_wp2_with fail
  refine (fits_any m vL vM J s _ c3 Hf.out).mono ?_
  rintro e w1 ⟨rfl, rfl⟩
  go_wp2_with (at_builtin; refine wpList_append_one rfl (.tmp 34) (.tmp 36) 64 rfl 9 i0 (.string ⟨#[]⟩) 1 16 Try.underlying64 Hz.out.1 Hz.out.2.1 Hz.out.2.2.1 Hz.out.2.2.2 rfl (by decide) vL l.length (l.map strV') rfl Hx.out.2.2.2 ⟨w.heap.size, 0, none⟩ 1 [.string s] rfl rfl Hx.out.2.2.1 (by simp [Value.oneCell']) Hx.out.1 Hx.out.2.1 ?_; intro g cap w2 hown hfr hg; have h9 := Hturn.out (.slice (some ⟨g, 0, none⟩) (l.length + 1) cap) (l ++ [s.data.toList]) w2 (strs_snoc hown rfl) hfr (blk_new hg); obtain ⟨x0, x1, x2, x3, y0, y1, y2, y3⟩ := h9.rcells k (by rw [List.getElem?_set_ne Hkq.out.symm]; exact Hk.out); clear c0 c1 c2 c3 f0 f1 f2 f3 hown hfr hg)
  go_ret
  refine ⟨rfl, .slice (some ⟨g, 0, none⟩) (l.length + 1) cap, ?_⟩
  have h10 := (h9.store k (by rw [List.getElem?_set_ne Hkq.out.symm]; exact Hk.out) 0 (.slice (some ⟨g, 0, none⟩) (l.length + 1) cap)).store k (List.getElem?_set_self (by rw [List.length_set]; exact (List.getElem?_eq_some_iff.1 Hk.out).1)) 3 (.int .i64 ((J.bytes : Int) + s.size + 16))
  rw [List.set_set, Hb.out] at h10
  exact h10

/-- An append to the reference journal while the power is off. -/
theorem own_rapp_off (h : Own w0 L w) {m : Nat} {vL vM : Value} {J : Rj} {l : List (List UInt8)} (k q : Nat) (hk : L[k]? = some (rT m vL vM J)) (hq : L[q]? = some (strsT vM l)) (hkq : k ≠ q) (hb : J.broken = false) (s : ByteArray) (hf : J.bytes + s.size + 16 + 256 ≤ 16777216) (hl : l.length ≤ 1048576) :
    Calls Try.prog 44 #[.pointer (some ⟨m, 0, none⟩), .string s, .bool false] w fun e w' => e = .returned (.int .i64 70) ∧ ∃ v', Own w0 ((L.set q (strsT v' (l ++ [s.data.toList]))).set k (rT m vL v' ⟨true, J.bytes⟩)) w' := by
  obtain ⟨c0, c1, c2, c3, f0, f1, f2, f3⟩ := h.rcells k hk
  rw [hb] at c2
  obtain ⟨i0, hi, hz0, hz1, hz2⟩ := info_parts Try.info9
  have hk0 : L[k]? = some (cellT m #[vL, vM, .bool J.broken, .int .i64 J.bytes] 74) := hk
  have ho := (h.store k hk0 2 (.bool true)).alloc (.cells #[.string s] 9)
  have hq2 : (L.set k (cellT m (#[vL, vM, .bool J.broken, .int .i64 J.bytes].setIfInBounds 2 (.bool true)) 74))[q]? = some (strsT vM l) := by rw [List.getElem?_set_ne hkq]; exact hq
  obtain ⟨hrow, hturn⟩ := ho.strs q hq2
  have hnews := new_cells (w.setCell ⟨m, 2, none⟩ (.bool true)) #[.string s] 9 (w.setCell ⟨m, 2, none⟩ (.bool true)).heap.size rfl
  have hsz : (w.setCell ⟨m, 2, none⟩ (.bool true)).heap.size = w.heap.size := by simp
  rw [hsz] at hnews
  have hkl : k < L.length := (List.getElem?_eq_some_iff.1 hk).1
  have hb1 : (l.length + 1) * 16 ≤ 140737488355328 := by omega
  have hb2 : l.length + 1 ≤ maxLen := by unfold maxLen; omega
  have hs1 : s.size ≤ 16777216 := by omega
  have hs2 : J.bytes ≤ 16777216 := by omega
  have Hz := Lib.hid (And.intro hi (And.intro hz0 (And.intro hz1 hz2)))
  have Hx := Lib.hid (And.intro hb1 (And.intro hb2 (And.intro hnews hrow)))
  have Hturn := Lib.hid hturn
  have Hf := Lib.hid hf
  have Hk := Lib.hid hk
  have Hkq := Lib.hid hkq
  have Hkl := Lib.hid hkl
  clear hi hz0 hz1 hz2 hb1 hb2 hnews hrow hturn hf hk hq hkq ho hb hl hsz hk0 hq2 hkl
  go_enter Try.func44, Try.ntmps44
  go_wp2_with fail
  refine (fits_any m vL vM J s _ c3 Hf.out).mono ?_
  rintro e w1 ⟨rfl, rfl⟩
  go_wp2_with (at_builtin; refine wpList_append_one rfl (.tmp 24) (.tmp 26) 64 rfl 9 i0 (.string ⟨#[]⟩) 1 16 Try.underlying64 Hz.out.1 Hz.out.2.1 Hz.out.2.2.1 Hz.out.2.2.2 rfl (by decide) vM l.length (l.map strV') rfl Hx.out.2.2.2 ⟨w.heap.size, 0, none⟩ 1 [.string s] rfl rfl Hx.out.2.2.1 (by simp [Value.oneCell']) Hx.out.1 Hx.out.2.1 ?_; intro g cap w2 hown hfr hg; have h9 := Hturn.out (.slice (some ⟨g, 0, none⟩) (l.length + 1) cap) (l ++ [s.data.toList]) w2 (strs_snoc hown rfl) hfr (blk_new hg); obtain ⟨x0, x1, x2, x3, y0, y1, y2, y3⟩ := h9.rcells (m := m) (vL := vL) (vM := vM) (J := ⟨true, J.bytes⟩) k (by rw [List.getElem?_set_ne Hkq.out.symm]; exact List.getElem?_set_self Hkl.out); clear c0 c1 c2 c3 f0 f1 f2 f3 hown hfr hg)
  go_ret
  refine ⟨rfl, .slice (some ⟨g, 0, none⟩) (l.length + 1) cap, ?_⟩
  have h10 := h9.store k (by rw [List.getElem?_set_ne Hkq.out.symm]; exact List.getElem?_set_self Hkl.out) 1 (.slice (some ⟨g, 0, none⟩) (l.length + 1) cap)
  rw [List.set_comm _ _ Hkq.out, List.set_set] at h10
  exact h10

theorem own_rapp_broken (h : Own w0 L w) {m : Nat} {vL vM : Value} {J : Rj} (k : Nat) (hk : L[k]? = some (rT m vL vM J)) (hb : J.broken = true) (s : ByteArray) (p : Bool) :
    Calls Try.prog 44 #[.pointer (some ⟨m, 0, none⟩), .string s, .bool p] w fun e w' => e = .returned (.int .i64 70) ∧ w = w' := by
  obtain ⟨c0, c1, c2, c3, f0, f1, f2, f3⟩ := h.rcells k hk
  rw [hb] at c2
  go_enter Try.func44, Try.ntmps44
  go_wp2_with fail
  go_ret
  exact ⟨rfl, rfl⟩
end
end Go.Proofs.Ytehdjajeonemoaa
