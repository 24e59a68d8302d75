/-
  The law JournalRaw: what its code does. Conditions: none beyond the arguments.
-/
import Derived.Test.YtehdjajeonemoaaJSan
import Derived.Test.YtehdjajeonemoaaJBad2
import Derived.Test.YtehdjajeonemoaaArgJ
namespace Go.Proofs.Ytehdjajeonemoaa
open Go.RowKit

theorem cut300 (s : ByteArray) (n : Nat) : ∃ t : ByteArray, (if s.size ≤ n then s else s.extract 0 n) = t ∧ t.size ≤ n := by
  by_cases h : s.size ≤ n
  · exact ⟨s, by rw [if_pos h], h⟩
  · exact ⟨s.extract 0 n, by rw [if_neg h], by rw [ByteArray.size_extract]; omega⟩

/-- Contents that bear records are no shorter than these. -/
theorem Good.small {c : List UInt8} {R : List (List UInt8)} (h : Good c R) (hc : c.length ≤ 400) : 8 * R.length + sumL R ≤ 400 := by
  cases h with
  | blank h1 h2 => subst h1; simp [sumL]
  | full h1 h2 h3 => rw [recs_length] at h3; omega

theorem raw_write (off : Nat) (t : ByteArray) (ht : t.size ≤ 300) : ∃ D1 : Dk, Dk.new.write ((off : Int) % 100) t.data.toList = (0, D1) ∧ D1.limited = false ∧ D1.now.length ≤ 400 := by
  have hl := size_toList t
  refine ⟨_, write_dk (by omega) (by omega) rfl, rfl, ?_⟩
  show (putL Dk.new.now _ _).length ≤ 400
  rw [putL_length, hl]
  have : Dk.new.now.length = 0 := rfl
  omega
theorem raw_sync {D1 : Dk} (h1 : D1.limited = false) (h2 : D1.now.length ≤ 400) : ∃ D2 : Dk, D1.sync = (0, D2) ∧ D2.limited = false ∧ D2.now.length ≤ 400 :=
  ⟨_, sync_free (off_free h1), h1, h2⟩
theorem raw_fits {R : List (List UInt8)} (h : 8 * R.length + sumL R ≤ 400) (s : ByteArray) (hs : s.size ≤ 200) : (Jn.of R).fits s.size = true := by
  show decide (sumL R + s.size + 16 * (R.length + 1) + 256 ≤ 16777216) = true
  rw [decide_eq_true_iff]
  omega

section
variable {ops : Array Oper} {rest : List Oper} {o : Oper} {a : Act} {w : World} {Q : Exit → Act → World → Prop}
/-- The same two appends where the operation has a guard. -/
theorem wpList_append_strs_g (hw : Region.wanted o (yielded ops a.tmps) = true) (s x : Operand)
    (ho : o.op = .call { callee := .builtin .append, args := #[s, x], argTypes := #[64, 64] }) (v vs : Value) (n : Nat) (xs : List Value) (l : List (List UInt8)) (hs : a.eval s = v) (hx : a.eval x = vs)
    (hown : w.ownsRow 0 9 1 v n xs) (hsrc : w.ownsRow 0 9 1 vs l.length (l.map strV')) (hb : (n + l.length) * 16 ≤ 140737488355328) (hm : n + l.length ≤ maxLen)
    (h : ∀ v' w', w'.ownsRow 0 9 1 v' (n + l.length) (xs ++ l.map strV') → Frm (Blk v) w w' → (∀ k, Blk v' k → Blk v k ∨ w.heap.size ≤ k) → wpList Try.prog ops Q rest (a.put o.dst v') w') : wpList Try.prog ops Q (o :: rest) a w := by
  obtain ⟨v', w', hr, h1, h2, h3⟩ := run_append_strs (w := w) o.type v vs n xs l hown hsrc hb hm
  refine wpList_step fun K hK => ?_
  rw [if_pos hw]
  unfold Oper.wp execOp
  simp only [ho, resolve, invoke, builtin, Sem.run_bind, Sem.run_pure, Result.andThen_ok, List.map_toArray, List.map_cons, List.map_nil, hs, hx, hr]
  exact hK _ _ (h v' w' h1 h2 h3)
theorem wpList_append_one_g (hw : Region.wanted o (yielded ops a.tmps) = true) (s x : Operand) (t : TypeId)
    (ho : o.op = .call { callee := .builtin .append, args := #[s, x], argTypes := #[t, t] }) (e : TypeId) (i : TypeInfo) (z : Value) (size bytes : Nat) (ht : Try.prog.underlying t = some (.slice e)) (hi : Try.prog.info? e = some i) (hz : i.zero = some z)
    (hsize : i.size = size) (hby : i.bytes = bytes) (hzs : z.cells.size = size) (hsz : 0 < size) (v : Value) (n : Nat) (xs : List Value) (hs : a.eval s = v) (hown : w.ownsRow 0 e size v n xs)
    (ad : Addr) (c : Nat) (news : List Value) (hx : a.eval x = .slice (some ad) 1 c) (hl : news.length = size) (hnews : ∀ j u, news[j]? = some u → w.cell? (ad.add j) = some u) (h1 : ∀ u ∈ news, u.oneCell' = true) (hbytes : (n + 1) * bytes ≤ 140737488355328) (hn : n + 1 ≤ maxLen)
    (h : ∀ g cap w', w'.ownsRow 0 e size (.slice (some ⟨g, 0, none⟩) (n + 1) cap) (n + 1) (xs ++ news) → Frm (Blk v) w w' → (Blk v g ∨ w.heap.size ≤ g) → wpList Try.prog ops Q rest (a.put o.dst (.slice (some ⟨g, 0, none⟩) (n + 1) cap)) w') : wpList Try.prog ops Q (o :: rest) a w := by
  refine wpList_step fun K hK => ?_
  rw [if_pos hw]
  exact wp_append_one s x t ho e i z size bytes ht hi hz hsize hby hzs hsz v n xs hs hown ad c news hx hl hnews h1 hbytes hn fun g cap w' h2 h3 h4 => hK _ _ (h g cap w' h2 h3 h4)
end

set_option maxRecDepth 100000 in
set_option maxHeartbeats 8000000 in
theorem law_raw (s : ByteArray) (off : Nat) (r : ByteArray) (w : World) (hs : s.size ≤ 9223372036854775807) (_ho : off ≤ 255) (hr : r.size ≤ 9223372036854775807) :
    Calls Try.prog 16 #[.string s, .int .u8 off, .string r] w fun e w' => e = .returned (.bool true) ∧ Frm (fun _ => False) w w' := by
  have Hr := Lib.hid hr
  clear hr
  go_enter Try.func16, Try.ntmps16
  go_wp2_with fail
  refine (jsanity_any w).mono ?_
  rintro e w1 ⟨rfl, f1⟩
  have h1 := (Own.start w).still f1
  clear f1
  go_wp2_with fail
  refine (own_new h1).mono ?_
  rintro e w2 ⟨d, rfl, h2⟩
  clear h1
  have hx : (s.extract 0 300).size ≤ 300 := by rw [ByteArray.size_extract]; omega
  have Hx := Lib.hid hx
  clear hx
  have hc : s.size ≤ 300 ∨ 300 < s.size := by omega
  rcases hc with hs3 | hs3
  go_wp2_with fail
  obtain ⟨D1, e1, l1, n1⟩ := raw_write off s hs3
  refine (own_write_eq (L' := [diskT d D1 (0 + s.size + 1)]) h2 0 rfl ((off : Int) % 100) s (by omega) (by omega) e1 rfl).mono ?_
  rintro e w3 ⟨rfl, h3⟩
  have h4 : Own w [diskT d D1 400] w3 := h3.widen (n' := 400) 0 rfl (by omega)
  rotate_left
  go_wp2_with fail
  obtain ⟨D1, e1, l1, n1⟩ := raw_write off (s.extract 0 300) Hx.out
  refine (own_write_eq (L' := [diskT d D1 (0 + (s.extract 0 300).size + 1)]) h2 0 rfl ((off : Int) % 100) (s.extract 0 300) (by have := Hx.out; omega) (by omega) e1 rfl).mono ?_
  rintro e w3 ⟨rfl, h3⟩
  have h4 : Own w [diskT d D1 400] w3 := h3.widen (n' := 400) 0 rfl (by have := Hx.out; omega)
  all_goals
    obtain ⟨D2, e2, l2, n2⟩ := raw_sync l1 n1
    clear h2 h3 e1 l1 n1 hs3 Hx
    have L2 := Lib.hid l2
    have E2 := Lib.hid e2
    clear e2 l2
    go_wp2_with fail
    refine (own_sync_eq (L' := [diskT d D2 401]) h4 0 rfl (by omega) E2.out rfl).mono ?_
    rintro e w4 ⟨rfl, h5⟩
    clear h4 E2
    go_wp2_with fail
    cases ho : openL D2.now with
    | none =>
      refine (own_open_bad h5 0 rfl (off_free L2.out) (by omega) ho).mono ?_
      rintro e w5 ⟨rfl, h6⟩
      clear ho
      go_wp2_with fail
      go_ret
      exact ⟨rfl, h6.frm⟩
    | some q =>
      obtain ⟨en, R⟩ := q
      obtain ⟨g1, -⟩ := Good.of_open ho (by omega)
      have hsm := g1.small n2
      clear ho
      refine (own_opened (R := R) h5 0 rfl (off_free L2.out) (by omega) g1).mono ?_
      rintro e w5 ⟨j, v, D3, rfl, i3, l3, h6⟩
      have L3 := Lib.hid (l3.trans L2.out)
      clear l3 h5 g1
      obtain ⟨a0, c0, rfl⟩ := strs_form (h6.strs 2 rfl).1
      have hR1 : R.length ≤ 50 := by omega
      have Hsm := Lib.hid hsm
      clear hsm
      go_wp2_with fail
      refine (own_many (J := Jn.of R) h6 1 rfl).mono ?_
      rintro e w6 ⟨rfl, rfl⟩
      rw [show (((Jn.of R).many : Nat) : Int) = (R.length : Int) from rfl]
      go_wp2_with fail
      refine (short_any r _ Hr.out).mono ?_
      rintro e w7 ⟨⟨rr, rfl, hrr⟩, rfl⟩
      have hr200 : rr.size ≤ 200 := by rw [← size_toList, hrr]; simp; omega
      have Hrr := Lib.hid hrr
      clear hrr
      go_wp2_with fail
      refine (own_append_on (R := R) h6 0 1 rfl rfl (by decide) i3 L3.out rr (raw_fits Hsm.out rr hr200) (by omega)).mono ?_
      rintro e w8 ⟨rfl, D4, i4, l4, h7⟩
      have L4 := Lib.hid l4
      clear l4 h6 i3
      go_wp2_with fail
      refine (own_crash_eq (q := []) h7 0 rfl (by omega) none 0 (fun i hi => absurd hi (Nat.not_lt_zero _)) (by decide) 0 rfl rfl).mono ?_
      rintro e w9 ⟨c, rfl, h8⟩
      clear h7
      go_wp2_with fail
      refine (own_opened (R := R ++ [rr.data.toList]) h8 3 rfl rfl (by omega) (i4.crash _).good).mono ?_
      rintro e w10 ⟨j2, v2, D5, rfl, i5, l5, h9⟩
      clear h8 l5 i5
      obtain ⟨a2, c2, rfl⟩ := strs_form (h9.strs 5 rfl).1
      have O1 := own_empty h9
      obtain ⟨hrow, hturn⟩ := O1.strs 6 rfl
      have hsrc := (O1.strs 2 rfl).1
      have hb1 : (0 + R.length) * 16 ≤ 140737488355328 := by omega
      have hb2 : 0 + R.length ≤ maxLen := by unfold maxLen; omega
      have hb3 : (R.length + 1) * 16 ≤ 140737488355328 := by omega
      have hb4 : R.length + 1 ≤ maxLen := by unfold maxLen; omega
      have Hb := Lib.hid (And.intro hb1 (And.intro hb2 (And.intro hb3 hb4)))
      have Hrow := Lib.hid hrow
      have Hturn := Lib.hid hturn
      have Hsrc := Lib.hid hsrc
      clear hb1 hb2 hb3 hb4 hrow hturn hsrc
      go_wp2_with (at_builtin; refine wpList_append_strs_g (by rfl) (.tmp 81) (.tmp 82) rfl (.slice (some ⟨w10.heap.size, 0, none⟩) 0 0) (.slice a0 R.length c0) 0 [] R rfl rfl Hrow.out Hsrc.out Hb.out.1 Hb.out.2.1 ?_; intro v6 w11 hown hfr hnew; rw [Nat.zero_add, List.nil_append] at hown; have O2 := Hturn.out v6 R w11 hown hfr hnew; obtain ⟨a6, c6, rfl⟩ := strs_form hown; clear hown hfr hnew)
      refine (short_any r _ Hr.out).mono ?_
      rintro e w12 ⟨⟨r3, rfl, hr3⟩, rfl⟩
      obtain rfl : rr = r3 := WideShapes.bytes_inj (Hrr.out.trans hr3.symm)
      clear hr3
      have O3 := O2.alloc (.cells #[.string rr] 9)
      obtain ⟨hrow, hturn⟩ := O3.strs 6 rfl
      have hnews := new_cells w11 #[.string rr] 9 w11.heap.size rfl
      obtain ⟨it, hit, hz0, hz1, hz2⟩ := info_parts Try.info9
      have Hz := Lib.hid (And.intro hit (And.intro hz0 (And.intro hz1 hz2)))
      have Hrow2 := Lib.hid hrow
      have Hturn2 := Lib.hid hturn
      have Hnews := Lib.hid hnews
      have O9' := h9
      clear hrow hturn hnews hit hz0 hz1 hz2 Hrow Hturn Hsrc O1 O2 h9
      go_wp2_with (at_builtin; refine wpList_append_one_g (by rfl) (.tmp 83) (.tmp 86) 64 rfl 9 it (.string ⟨#[]⟩) 1 16 Try.underlying64 Hz.out.1 Hz.out.2.1 Hz.out.2.2.1 Hz.out.2.2.2 rfl (by decide) (.slice a6 R.length c6) R.length (R.map strV') rfl Hrow2.out ⟨w11.heap.size, 0, none⟩ 1 [.string rr] rfl rfl Hnews.out (by simp [Value.oneCell']) Hb.out.2.2.1 Hb.out.2.2.2 ?_; intro g20 c20 w14 hown hfr hg; have O4 := Hturn2.out (.slice (some ⟨g20, 0, none⟩) (R.length + 1) c20) (R ++ [rr.data.toList]) w14 (strs_snoc hown rfl) hfr (blk_new hg); clear hown hfr hg)
      have sa := (O4.strsAt 5 rfl).1
      have sb := (O4.strsAt 6 rfl).1
      have hs := jsame_any a2 (some ⟨g20, 0, none⟩) c2 c20 (R ++ [rr.data.toList]) (R ++ [rr.data.toList]) w14 sa sb (by rw [List.length_append, List.length_singleton]; omega) (by rw [List.length_append, List.length_singleton]; omega)
      rw [List.length_append, List.length_singleton, decide_eq_true rfl] at hs
      have Hs := Lib.hid hs
      clear hs sa sb
      refine Hs.out.mono ?_
      rintro e w15 ⟨rfl, n3, rfl⟩
      have O5 := O4.drewN n3
      go_wp2_with fail
      go_ret
      exact ⟨rfl, O5.frm⟩

theorem law_raw_int (s : ByteArray) (off : Int) (r : ByteArray) (w : World) (hs : s.size ≤ 9223372036854775807) (ho : 0 ≤ off ∧ off ≤ 255) (hr : r.size ≤ 9223372036854775807) :
    Calls Try.prog 16 #[.string s, .int .u8 off, .string r] w fun e w' => e = .returned (.bool true) ∧ Frm (fun _ => False) w w' := by
  obtain ⟨x, rfl⟩ := Int.eq_ofNat_of_zero_le ho.1
  exact law_raw s x r w hs (by omega) hr
end Go.Proofs.Ytehdjajeonemoaa
