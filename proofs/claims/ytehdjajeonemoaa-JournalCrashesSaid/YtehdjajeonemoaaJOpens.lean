/-
  The reference journal's Opens, where the list is the journal's. Conditions: the lists and the journal lie among the things in memory.
-/
import Derived.Test.YtehdjajeonemoaaJSmall
import Derived.Maps.AppendAt
namespace Go.Proofs.Ytehdjajeonemoaa
open Go.RowKit

section
variable {w0 w : World} {L : List Thing}

/-- 'append(v, vs...)' of lists of strings, v a slice that owns its row. -/
theorem run_append_strs (ty : TypeId) (v vs : Value) (n : Nat) (xs : List Value) (l : List (List UInt8)) (hown : w.ownsRow 0 9 1 v n xs) (hsrc : w.ownsRow 0 9 1 vs l.length (l.map strV')) (hb : (n + l.length) * 16 ≤ 140737488355328) (hm : n + l.length ≤ maxLen) :
    ∃ v' w', (Builtin.append_ #[64, 64] ty #[v, vs]).run Try.prog w = .ok v' w' ∧ w'.ownsRow 0 9 1 v' (n + l.length) (xs ++ l.map strV') ∧ Frm (Blk v) w w' ∧ (∀ k, Blk v' k → Blk v k ∨ w.heap.size ≤ k) := by
  obtain ⟨i0, hi, hz0, hz1, hz2⟩ := info_parts Try.info9
  rcases hsrc.2 with ⟨rfl, h0⟩ | ⟨g, cap, cur, rfl, -, hg, -⟩
  · have hl : l = [] := List.eq_nil_of_length_eq_zero h0
    subst hl
    have hr := run_append_owned_none (P := Try.prog) (w := w) 0 64 ty 9 i0 1 Try.underlying64 hi v n xs hown
    exact ⟨v, w, hr, by simpa using hown, Frm.refl _ _, fun k hk => .inl hk⟩
  · have hc := hsrc.cells (g := g) rfl
    obtain ⟨v', w', hr, h1, h2, -, h4⟩ := run_append_own_at (P := Try.prog) (w := w) 0 64 ty 9 i0 (.string ⟨#[]⟩) 1 16 Try.underlying64 hi hz0 hz1 hz2 rfl (by decide) v n xs hown ⟨g, 0, none⟩ l.length cap (l.map strV') (by simp) hc (by intro u hu; obtain ⟨r, -, rfl⟩ := List.mem_map.1 hu; rfl) hm hb (Nat.zero_le _)
    refine ⟨v', w', hr, h1, Frm.of_grown h2 (fun k e => e), fun k hk => ?_⟩
    rcases h4 with e | e
    · refine .inl ?_
      show v.ownBlock = some k
      rw [← e]
      exact hk
    · right
      have : some w.heap.size = some k := by rw [← e]; exact hk
      injection this with this
      omega

theorem wpList_append_strs {ops : Array Oper} {rest : List Oper} {o : Oper} {a : Act} {Q : Exit → Act → World → Prop} (hgd : o.guard = none) (s x : Operand)
    (ho : o.op = .call { callee := .builtin .append, args := #[s, x], argTypes := #[64, 64] }) (v vs : Value) (n : Nat) (xs : List Value) (l : List (List UInt8)) (hs : a.eval s = v) (hx : a.eval x = vs)
    (hown : w.ownsRow 0 9 1 v n xs) (hsrc : w.ownsRow 0 9 1 vs l.length (l.map strV')) (hb : (n + l.length) * 16 ≤ 140737488355328) (hm : n + l.length ≤ maxLen)
    (h : ∀ v' w', w'.ownsRow 0 9 1 v' (n + l.length) (xs ++ l.map strV') → Frm (Blk v) w w' → (∀ k, Blk v' k → Blk v k ∨ w.heap.size ≤ k) → wpList Try.prog ops Q rest (a.put o.dst v') w') : wpList Try.prog ops Q (o :: rest) a w := by
  obtain ⟨v', w', hr, h1, h2, h3⟩ := run_append_strs (w := w) o.type v vs n xs l hown hsrc hb hm
  refine wpList_plain hgd fun K hK => ?_
  unfold Oper.wp execOp
  simp only [ho, resolve, invoke, builtin, Sem.run_bind, Sem.run_pure, Result.andThen_ok, List.map_toArray, List.map_cons, List.map_nil, hs, hx, hr]
  exact hK _ _ (h v' w' h1 h2 h3)

/-- An empty list that is no nil slice. -/
theorem own_empty (h : Own w0 L w) : Own w0 (L ++ [strsT (.slice (some ⟨w.heap.size, 0, none⟩) 0 0) []]) (w.alloc (.cells #[] 9)) :=
  h.add (T := strsT (.slice (some ⟨w.heap.size, 0, none⟩) 0 0) []) (F' := Blk (.slice (some ⟨w.heap.size, 0, none⟩) 0 0)) ⟨⟨by simp, .inr ⟨w.heap.size, 0, #[], rfl, Nat.zero_le _, heap_alloc_new w _, Nat.le_refl _, Nat.zero_le _, rfl, by simp⟩⟩, rfl⟩
    ((Frm.refl _ _).alloc _) fun k hk => by
      obtain rfl := Blk.some.1 hk
      exact Nat.le_refl _

/-- How many bytes the reference counts. -/
def cntL (l : List (List UInt8)) : Nat := (l.map fun r => r.length + 16).sum
theorem cntL_append (a b : List (List UInt8)) : cntL (a ++ b) = cntL a + cntL b := by simp [cntL]
theorem cntL_one (r : List UInt8) : cntL [r] = r.length + 16 := by simp [cntL]

/-- The last thing takes another's place. -/
theorem Own.place {T : Thing} (h : Own w0 (L ++ [T]) w) (q : Nat) (hq : q < L.length) : Own w0 (L.set q T) w := by
  refine h.reidx (fun j => if j = q then L.length else j) (fun j U hj => ?_) (fun a b ha hb e => ?_)
  · by_cases e : j = q
    · subst e
      rw [List.getElem?_set_self hq] at hj
      rw [if_pos rfl, List.getElem?_append_right (Nat.le_refl _), Nat.sub_self]
      exact hj
    · rw [List.getElem?_set_ne (fun e' => e e'.symm)] at hj
      rw [if_neg e, List.getElem?_append_left (List.getElem?_eq_some_iff.1 hj).1]
      exact hj
  · rw [List.length_set] at ha hb
    split at e <;> split at e <;> omega
theorem cntL_take (l : List (List UInt8)) (i : Nat) (h : i < l.length) : cntL (l.take (i + 1)) = cntL (l.take i) + l[i].length + 16 := by
  rw [List.take_succ_eq_append_getElem h, cntL_append, cntL_one, Nat.add_assoc]
theorem cntL_take_le (l : List (List UInt8)) (i : Nat) : cntL (l.take i) ≤ cntL l := by
  have h : cntL (l.take i ++ l.drop i) = cntL (l.take i) + cntL (l.drop i) := cntL_append _ _
  rw [List.take_append_drop] at h
  omega

set_option maxRecDepth 100000 in
set_option maxHeartbeats 4000000 in
theorem own_opens (h : Own w0 L w) {m : Nat} {vL vM vg : Value} {J : Rj} {l : List (List UInt8)} (k q g : Nat) (hk : L[k]? = some (rT m vL vM J)) (hq : L[q]? = some (strsT vL l)) (hg : L[g]? = some (strsT vg l)) (hkq : k ≠ q) (hgk : g ≠ k) (hl : l.length ≤ 1048576) (hc : cntL l ≤ 1073741824) :
    Calls Try.prog 46 #[.pointer (some ⟨m, 0, none⟩), vg] w fun e w' => e = .returned (.bool true) ∧ ∃ v', Own w0 ((L.set q (strsT v' l)).set k (rT m v' (.slice none 0 0) ⟨false, cntL l⟩)) w' := by
  obtain ⟨c0, c1, c2, c3, f0, f1, f2, f3⟩ := h.rcells k hk
  obtain ⟨ag, cg, rfl⟩ := strs_form (h.strs g hg).1
  obtain ⟨al, cl, rfl⟩ := strs_form (h.strs q hq).1
  have hs1 := (h.strsAt g hg).1
  have hs2 := (h.strsAt q hq).1
  have Hk := Lib.hid hk
  have Hq := Lib.hid hq
  have Hg := Lib.hid hg
  have Hkq := Lib.hid hkq
  have Hs1 := Lib.hid hs1
  have Hs2 := Lib.hid hs2
  have Hgk := Lib.hid hgk
  clear hk hq hg hkq hgk hs1 hs2
  go_enter Try.func46, Try.ntmps46
  go_wp2_with fail
  refine (jsame_any ag al cg cl l l w Hs1.out Hs2.out (by omega) (by omega)).mono ?_
  rintro e w1 ⟨rfl, nn, rfl⟩
  rw [decide_eq_true rfl]
  have h1 := h.drewN nn
  have h2 := own_empty h1
  obtain ⟨hrow, hturn⟩ := h2.strs L.length (get_end _ _)
  have hsrc := (h2.strs g (get_left _ Hg.out)).1
  have hb1 : (0 + l.length) * 16 ≤ 140737488355328 := by omega
  have hb2 : 0 + l.length ≤ maxLen := by unfold maxLen; omega
  have Hx := Lib.hid (And.intro hb1 (And.intro hb2 (And.intro hrow hsrc)))
  have Hturn := Lib.hid hturn
  have Hc := Lib.hid hc
  clear hb1 hb2 hrow hsrc hturn h2 hc
  obtain ⟨d0, d1, d2, d3, e0, e1, e2, e3⟩ := h1.rcells k Hk.out
  clear c0 c1 c2 c3 f0 f1 f2 f3
  have hkl : k < L.length := (List.getElem?_eq_some_iff.1 Hk.out).1
  have hql : q < L.length := (List.getElem?_eq_some_iff.1 Hq.out).1
  have Hkl := Lib.hid hkl
  have Hql := Lib.hid hql
  clear hkl hql
  go_wp2_with (at_builtin; refine wpList_append_strs rfl (.tmp 52) (.tmp 53) rfl (.slice (some ⟨w.heap.size, 0, none⟩) 0 0) (.slice ag l.length cg) 0 [] l rfl rfl Hx.out.2.2.1 Hx.out.2.2.2 Hx.out.1 Hx.out.2.1 ?_; intro v' w3 hown hfr hnew; rw [Nat.zero_add, List.nil_append] at hown; obtain ⟨an, cn, rfl⟩ := strs_form hown; have h3 := Hturn.out (.slice an l.length cn) l w3 hown hfr hnew; obtain ⟨x0, x1, x2, x3, y0, y1, y2, y3⟩ := h3.rcells (m := m) (vL := .slice al l.length cl) (vM := vM) (J := J) k (by rw [List.getElem?_set_ne (Nat.ne_of_gt Hkl.out)]; exact get_left _ Hk.out); clear hown hfr hnew d0 d1 d2 d3 e0 e1 e2 e3)
  rw [List.set_append_right (h := Nat.le_refl _), Nat.sub_self] at h3
  have h4 := (((h3.store k (get_left _ Hk.out) 0 (.slice an l.length cn)).store k (List.getElem?_set_self (by simp; have := Hkl.out; omega)) 2 (.bool false)).store k (by rw [List.set_set]; exact List.getElem?_set_self (by simp; have := Hkl.out; omega)) 1 (.slice none 0 0)).store k (by rw [List.set_set, List.set_set]; exact List.getElem?_set_self (by simp; have := Hkl.out; omega)) 3 (.int .i64 0)
  rw [List.set_set, List.set_set, List.set_set] at h4
  have h5 : Own w0 ((L ++ [strsT (.slice an l.length cn) l]).set k (rT m (.slice an l.length cn) (.slice none 0 0) ⟨false, 0⟩)) _ := h4
  clear x0 x1 x2 x3 y0 y1 y2 y3 h3 h4
  have hcl := cntL_take_le l
  have Hcl := Lib.hid hcl
  clear hcl
  obtain ⟨W, hW⟩ : ∃ W, W = ((((w3.setCell ⟨m, 0, none⟩ (.slice an l.length cn)).setCell ⟨m, 2, none⟩ (.bool false)).setCell ⟨m, 1, none⟩ (.slice none 0 0)).setCell ⟨m, 3, none⟩ (.int .i64 0)) := ⟨_, rfl⟩
  rw [← hW] at h5 ⊢
  clear hW
  have hg2 : (L ++ [strsT (.slice an l.length cn) l])[g]? = some (strsT (.slice ag l.length cg) l) := get_left _ Hg.out
  have Hg2 := Lib.hid hg2
  clear hg2
  go_loopw [6] (fun i wr => ∃ t : Nat, i = .int .i64 t ∧ t ≤ l.length ∧ Own w0 ((L ++ [strsT (.slice an l.length cn) l]).set k (rT m (.slice an l.length cn) (.slice none 0 0) ⟨false, cntL (l.take t)⟩)) wr) (fun i _ => l.length - (intOf i).toNat)
  case atStart => exact ⟨0, rfl, Nat.zero_le _, h5⟩
  case round =>
    obtain ⟨t, rfl, ht, hO⟩ := hrel
    clear h5
    have Hlen := Lib.hid (show k < (L ++ [strsT (.slice an l.length cn) l]).length by have := Hkl.out; simp; omega)
    obtain ⟨x0, x1, x2, x3, y0, y1, y2, y3⟩ := hO.rcells (m := m) (vL := .slice an l.length cn) (vM := .slice none 0 0) (J := ⟨false, cntL (l.take t)⟩) k (List.getElem?_set_self Hlen.out)
    by_cases hlt : t < l.length
    · obtain ⟨b, o, rfl, cs⟩ := (hO.strsAt g (by rw [List.getElem?_set_ne Hgk.out.symm]; exact Hg2.out)).1 t hlt
      unfold strV' at cs
      obtain ⟨rs, hrs⟩ : ∃ rs : ByteArray, (⟨(l[t]).toArray⟩ : ByteArray) = rs := ⟨_, rfl⟩
      rw [hrs] at cs
      have hrl : rs.size = (l[t]).length := by rw [← hrs]; show (l[t]).toArray.size = _; simp
      have hct := cntL_take l t hlt
      have b1 : cntL (l.take t) ≤ 1073741824 := Nat.le_trans (Hcl.out t) Hc.out
      have b2 : rs.size ≤ 1073741824 := by have := Hcl.out (t + 1); have := Hc.out; omega
      have Hrl := Lib.hid hrl
      have Hct := Lib.hid hct
      clear hrs hrl hct
      have i0 : (0 : Int) ≤ t := by omega
      have i1 : (t : Int) < l.length := by omega
      generalize hcnt : cntL (l.take t) = cnt at hO x3 b1 Hct
      clear hcnt
      go_wp2_with fail
      go_region
      all_goals go_wp2_with fail
      all_goals
        refine ⟨⟨t + 1, by go_num, hlt, ?_⟩, by simp [intOf]; omega⟩
        have h8 := (hO.store k (List.getElem?_set_self Hlen.out) 3 (.int .i64 ((cnt : Int) + rs.size + 16))).drew
        rw [List.set_set] at h8
        rw [Hct.out, ← Hrl.out]
        exact h8
    · go_wp2_with fail
      go_ret
      have he : l.take t = l := List.take_of_length_le (by omega)
      rw [he] at hO
      have h6 := hO
      rw [List.set_append_left (h := Hkl.out)] at h6
      have h7 := h6.place q (by rw [List.length_set]; exact Hql.out)
      rw [List.set_comm _ _ Hkq.out] at h7
      exact ⟨rfl, _, h7⟩
end
end Go.Proofs.Ytehdjajeonemoaa
