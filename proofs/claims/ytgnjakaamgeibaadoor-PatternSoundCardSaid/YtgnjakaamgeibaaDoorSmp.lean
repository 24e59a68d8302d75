/-
  The reference's Sample: a text that a pattern matches. Conditions: the pieces are right, few and short; the numbers lie in memory.
-/
import Derived.Test.YtgnjakaamgeibaaDoorSme
import Derived.Test.YtgnjakaamgeibaaDoorDec
namespace Go.Proofs.YtgnjakaamgeibaaDoor
open Go.RowKit Go.Shelf
attribute [local go_sem] Oper.semAt_some

def smpL : List Pc → List Int → List UInt8
  | [], _ => []
  | p :: r, t => if p.cls = 0 then p.t ++ smpL r t else smR (chL p.cls) (smX t.tail) (smN p t) ++ smpL r t.tail
theorem smp_mt : ∀ (ps : List Pc) (t : List Int), (∀ p ∈ ps, pieceB p = true) → mtB ps (smpL ps t) = true ∧ chrs (smpL ps t) = true
  | [], t, _ => ⟨rfl, rfl⟩
  | p :: r, t, h => by
    have hp := h p (List.mem_cons_self ..)
    have hr : ∀ q ∈ r, pieceB q = true := fun q hq => h q (List.mem_cons_of_mem _ hq)
    have happ : ∀ (a b : List UInt8), fits p a = true → chrs a = true → mtB r b = true → chrs b = true → mtB (p :: r) (a ++ b) = true ∧ chrs (a ++ b) = true := by
      intro a b h1 h2 h3 h4
      refine ⟨mt_app (p := [p]) (by rw [mt_one]; exact h1) h3, ?_⟩
      unfold chrs at h2 h4 ⊢
      rw [List.all_append, h2, h4]
      rfl
    unfold smpL
    by_cases hc : p.cls = 0
    · rw [if_pos hc]
      obtain ⟨-, -, -, hk⟩ := lit_facts hp hc
      obtain ⟨i1, i2⟩ := smp_mt r t hr
      refine happ _ _ ?_ hk i1 i2
      unfold fits
      rw [if_pos hc]
      simp
    · rw [if_neg hc]
      obtain ⟨k1, k7, -⟩ := run_facts hp hc
      obtain ⟨i1, i2⟩ := smp_mt r t.tail hr
      obtain ⟨c1, -, c3⟩ := chL_ok p.cls k1 k7
      obtain ⟨n1, n2⟩ := smN_ok hp hc t
      refine happ _ _ ?_ ?_ i1 i2
      · unfold fits
        rw [if_neg hc, smR_len, decide_eq_true n1, decide_eq_true n2]
        unfold consB
        rw [Bool.true_and, Bool.true_and, List.all_eq_true]
        intro c hm
        exact (c3 c (smR_mem c1 hm)).2
      · unfold chrs
        rw [List.all_eq_true]
        intro c hm
        have := (c3 c (smR_mem c1 hm)).1
        simpa using this
theorem smp_lit {p : Pc} {r : List Pc} {t : List Int} (h : p.cls = 0) : smpL (p :: r) t = p.t ++ smpL r t := by
  rw [smpL, if_pos h]
theorem smp_run {p : Pc} {r : List Pc} {t : List Int} (h : p.cls ≠ 0) : smpL (p :: r) t = smR (chL p.cls) (smX t.tail) (smN p t) ++ smpL r t.tail := by
  rw [smpL, if_neg h]
def chA : Array Value := #[.string ⟨#[]⟩, .string ⟨#[48, 49, 56, 57]⟩, .string ⟨#[65, 90, 81]⟩, .string ⟨#[97, 122, 113]⟩, .string ⟨#[65, 90, 97, 122]⟩, .string ⟨#[32]⟩, .string ⟨#[45, 46, 43, 123]⟩, .string ⟨#[97, 48, 32, 90, 126]⟩]
theorem chA_at (q : Nat) (h1 : 1 ≤ q) (h : q ≤ 7) : chA[q]? = some (.string ⟨(chL q).toArray⟩) := by
  have : q = 1 ∨ q = 2 ∨ q = 3 ∨ q = 4 ∨ q = 5 ∨ q = 6 ∨ q = 7 := by omega
  rcases this with rfl | rfl | rfl | rfl | rfl | rfl | rfl <;> rfl
theorem ints_at {w : World} {b o : Nat} {q : List Int} (h : IntsAt w (some ⟨b, o, none⟩) q) (j : Nat) (hj : j < q.length) : w.cell? ⟨b, o + j, none⟩ = some (.int .i64 q[j]) ∧ -9223372036854775808 ≤ q[j] ∧ q[j] ≤ 9223372036854775807 := by
  obtain ⟨b', o', e, hc, h1, h2⟩ := h j hj
  injection e with e
  injection e with e1 e2 _
  subst e1
  subst e2
  rw [List.getD_eq_getElem?_getD, List.getElem?_eq_getElem hj] at hc h1 h2
  exact ⟨hc, h1, h2⟩

set_option maxRecDepth 100000 in
set_option maxHeartbeats 8000000 in
theorem sample_any {v : Value} {ps : List Pc} {ao : Option Addr} {n cap : Nat} {l : List Int} (w : World) (hP : Pcs w v ps) (hpc : ∀ p ∈ ps, pieceB p = true) (hsz : ∀ p ∈ ps, p.txt.size ≤ 200) (hl5 : ps.length ≤ 5) (hI : IntsAt w ao l) (hn : l.length = n) (hb : n ≤ maxLen) :
    Calls Tryd.prog 40 #[v, .slice ao n cap] w fun e w' => e = .returned (strV (smpL ps l)) ∧ (smpL ps l).length ≤ 1000 ∧ Frm (fun _ => False) w w' := by
  subst hn
  have hbn : l.length ≤ 9223372036854775807 := by unfold maxLen at hb; omega
  obtain ⟨ao1, cap1, rfl⟩ := hP.form
  have HP := Lib.hid hP
  have HI := Lib.hid hI
  have Hpc := Lib.hid hpc
  have Hsz := Lib.hid hsz
  clear hP hI hpc hsz hb
  have hN := heap_alloc_new w (.cells chA 9)
  have hF := (Frm.refl (fun _ => False) w).alloc (.cells chA 9)
  unfold chA at hN hF
  go_enter Tryd.func40, Tryd.ntmps40
  go_wp2_with fail
  obtain ⟨W1, hW1⟩ : ∃ W, W = w.alloc (.cells #[.string ⟨#[]⟩, .string ⟨#[48, 49, 56, 57]⟩, .string ⟨#[65, 90, 81]⟩, .string ⟨#[97, 122, 113]⟩, .string ⟨#[65, 90, 97, 122]⟩, .string ⟨#[32]⟩, .string ⟨#[45, 46, 43, 123]⟩, .string ⟨#[97, 48, 32, 90, 126]⟩] 9) := ⟨_, rfl⟩
  obtain ⟨xb, hxb⟩ : ∃ b, b = w.heap.size := ⟨_, rfl⟩
  rw [← hW1, ← hxb] at hN
  rw [← hW1] at hF
  rw [← hW1, ← hxb]
  clear hW1 hxb
  have hch : ∀ W, Frm (fun _ => False) W1 W → ∀ q, 1 ≤ q → q ≤ 7 → W.cell? ⟨xb, q, none⟩ = some (.string ⟨(chL q).toArray⟩) := fun W f q h1 h7 => by
    rw [cell_of_row W xb q _ _ _ (f.heap hN (fun h => h))]
    exact chA_at q h1 h7
  have Hch := Lib.hid hch
  have HP1 := Lib.hid (HP.out.still hF)
  have HI1 := Lib.hid (HI.out.still hF)
  have HF := Lib.hid hF
  clear hch hN hF HP HI
  have HI := HI1
  go_loopw [6, 7, 8] (fun sa sx si wr => ∃ (at0 i : Nat) (xs : ByteArray), sa = .int .i64 at0 ∧ sx = .string xs ∧ si = .int .i64 i ∧ i ≤ ps.length ∧ at0 ≤ i ∧ Hid (xs.data.toList ++ smpL (ps.drop i) (l.drop at0) = smpL ps l) ∧ xs.size ≤ 200 * i ∧ Frm (fun _ => False) W1 wr) (fun _ _ si _ => ps.length - (intOf si).toNat)
  case atStart => exact ⟨0, 0, ⟨#[]⟩, rfl, rfl, rfl, Nat.zero_le _, Nat.le_refl _, by show _ = _; rfl, Nat.zero_le _, Frm.refl _ _⟩
  case round =>
    obtain ⟨at0, i, xs, rfl, rfl, rfl, hi, hai, hx, hxz, hf⟩ := hrel
    by_cases hlt : i < ps.length
    · obtain ⟨g, hao, ⟨c0, c1, c2, c3⟩, hg⟩ := (HP1.out.still hf).at' i hlt
      subst hao
      have hlt' : (i : Int) < (ps.length : Int) := by omega
      have hpp := Hpc.out _ (List.getElem_mem hlt)
      have hps := Hsz.out _ (List.getElem_mem hlt)
      have hx2 := hx.out
      rw [List.drop_eq_getElem_cons hlt] at hx2
      generalize hpi : ps[i] = p at *
      by_cases hc : p.cls = 0
      · rw [smp_lit hc, ← List.append_assoc] at hx2
        have hx3 : (xs ++ p.txt).data.toList ++ smpL (ps.drop (i + 1)) (l.drop at0) = smpL ps l := by
          rw [ByteArray.data_append, Array.toList_append]; exact hx2
        have Hx3 := Lib.hid hx3
        rw [hc] at c0
        have hcat : ¬ 9223372036854775807 < xs.size + p.txt.size := by omega
        clear hx hx2 hx3 hpp
        go_wp2_with fail
        go_roundw
        case rel => exact ⟨at0, i + 1, xs ++ p.txt, rfl, rfl, by go_num, hlt, by omega, Hx3, by rw [ByteArray.size_append]; omega, hf⟩
        case measure => simp [intOf]; omega
      · rw [smp_run hc, ← List.append_assoc] at hx2
        obtain ⟨r1, r7, r0, rle, rh1, rh, -⟩ := run_facts hpp hc
        obtain ⟨n1, n2⟩ := smN_ok hpp hc (l.drop at0)
        obtain ⟨h1, h2, -⟩ := chL_ok p.cls r1 r7
        obtain ⟨q, hq⟩ : ∃ q : Nat, p.cls = (q : Int) := ⟨p.cls.toNat, by omega⟩
        obtain ⟨N, hN⟩ : ∃ N, N = smN p (l.drop at0) := ⟨_, rfl⟩
        obtain ⟨X, hX⟩ : ∃ X, X = smX (l.drop at0).tail := ⟨_, rfl⟩
        rw [← hN] at n1 n2
        rw [← hN, ← hX] at hx2
        have HX := Lib.hid hX.symm
        have HNN := Lib.hid hN
        have Hx2 := Lib.hid hx2
        have hN200 : N ≤ 200 := by omega
        have hX97 : X < 97 := by
          rw [hX]
          cases (l.drop at0).tail with
          | nil => show 0 < 97; omega
          | cons a t => show (a % 97).toNat < 97; have := Int.emod_lt_of_pos a (b := 97) (by decide); have := Int.emod_nonneg a (b := 97) (by decide); omega
        obtain ⟨cs, hcsd⟩ : ∃ cs : ByteArray, cs = ⟨(chL p.cls).toArray⟩ := ⟨_, rfl⟩
        have hcl : cs.data.toList = chL p.cls := by rw [hcsd]
        have HC := Lib.hid hcl
        obtain ⟨L, hL⟩ : ∃ L, L = cs.size := ⟨_, rfl⟩
        have hcs := hL.symm
        have hLp : 0 < L := by rw [hL, ← size_list, hcl]; exact List.length_pos_iff.2 h1
        have hL5 : L ≤ 5 := by rw [hL, ← size_list, hcl]; exact h2
        have hchq : ∀ W, Frm (fun _ => False) W1 W → W.cell? ⟨xb, q, none⟩ = some (.string cs) := fun W f => by
          have := Hch.out W f q (by omega) (by omega)
          rw [this, hcsd, hq]
        have Hchq := Lib.hid hchq
        have hne : (p.cls == 0) = false := by rw [beq_eq_false_iff_ne]; exact hc
        have hqn : (0 : Int) ≤ (q : Int) := by omega
        have hq8 : (q : Int) < 8 := by omega
        have Hq := Lib.hid hq
        clear hx hx2 hpp hX hN hcsd hcl hL hchq h1 h2 hq
        by_cases hat : at0 < l.length
        · obtain ⟨lb, lo, hla, -⟩ := HI.out 0 (by omega)
          subst hla
          obtain ⟨ca, ba1, ba2⟩ := ints_at (HI.out.still hf) at0 hat
          have hatI : (at0 : Int) < (l.length : Int) := by omega
          have h3 := mod_any l[at0] 3
          have H3 := Lib.hid (fun W => h3 W (by decide) (by decide) ba1 ba2)
          have h30 := Int.emod_nonneg l[at0] (b := 3) (by decide)
          have h31 := Int.emod_lt_of_pos l[at0] (b := 3) (by decide)
          have hNv : (N : Int) = min (p.lo + l[at0] % 3) p.hi := by
            have := HNN.out
            rw [List.drop_eq_getElem_cons hat] at this
            rw [this]
            show (((min (p.lo + l[at0] % 3) p.hi).toNat : Nat) : Int) = _
            omega
          generalize l[at0] = y at *
          generalize y % 3 = m3 at *
          have hw3 : IntKind.i64.wrap (p.lo + m3) = p.lo + m3 := IntWalk.i64_in _ (by omega)
          clear h3 ba1 ba2
          go_upto_region 11 with fail
          go_quiet (first | (go_at_call 41; exact Calls.quiet_of_same ((H3.out _).mono fun _ _ h => ⟨h.1, h.2.symm⟩)))
          have Hf0 := Lib.hid (hf.drewN nq)
          rw [← hNv]
          clear hf ca h30 h31 hNv
          go_wp2_with fail
          go_loopw [7, 10] (fun sx sk wr => ∃ (k : Nat) (xs2 : ByteArray), sx = .string xs2 ∧ sk = .int .i64 k ∧ k ≤ N ∧ Hid (xs2.data.toList = xs.data.toList ++ smR (chL p.cls) X k) ∧ xs2.size ≤ xs.size + k ∧ Frm (fun _ => False) W1 wr) (fun _ sk _ => N - (intOf sk).toNat)
          case atStart => exact ⟨0, xs, rfl, rfl, Nat.zero_le _, Lib.hid (by simp [smR]), by omega, Hf0.out⟩
          case round =>
            clear c0 c1 c2 c3
            obtain ⟨k, xs2, rfl, rfl, hk, hx2, hxz2, hf⟩ := hrel
            by_cases hkl : k < N
            · have hkl' : (k : Int) < (N : Int) := by omega
              obtain ⟨g', hao', ⟨c0, -, -, -⟩, -⟩ := (HP1.out.still hf).at' i hlt
              injection hao' with hao'
              injection hao' with hao' _ _
              subst hao'
              rw [hpi, Hq.out] at c0
              have cc := Hchq.out _ hf
              by_cases hat1 : at0 + 1 < l.length
              · skip
                obtain ⟨ca, ba1, ba2⟩ := ints_at (HI.out.still hf) (at0 + 1) hat1
                have hatI : ((at0 : Int) + 1) < (l.length : Int) := by omega
                have h97 := mod_any l[at0 + 1] 97
                have H97 := Lib.hid (fun W => h97 W (by decide) (by decide) ba1 ba2)
                have h970 := Int.emod_nonneg l[at0 + 1] (b := 97) (by decide)
                have h971 := Int.emod_lt_of_pos l[at0 + 1] (b := 97) (by decide)
                have hXX : l[at0 + 1] % 97 = (X : Int) := by
                  have := HX.out
                  rw [List.tail_drop, List.drop_eq_getElem_cons hat1] at this
                  have h2 : (l[at0 + 1] % 97).toNat = X := this
                  omega
                rw [hXX] at H97
                generalize l[at0 + 1] = y at *
                clear h97 h970 h971 hXX ba1 ba2
                obtain ⟨r, hrr⟩ : ∃ r, r = (X + k) % L := ⟨_, rfl⟩
                have hr : r < L := by rw [hrr]; exact Nat.mod_lt _ (by omega)
                have htm : Int.tmod ((X : Int) + (k : Int)) (L : Int) = (r : Int) := by
                  rw [hrr, Int.tmod_eq_emod_of_nonneg (by omega)]
                  rfl
                have hsl := byte_at cs r (by rw [hcs]; exact hr)
                have hgd : (⟨#[cs[r]'(by rw [hcs]; exact hr)]⟩ : ByteArray).data.toList = [(chL p.cls).getD ((X + k) % (chL p.cls).length) 0] := by
                  have hh := HC.out
                  have e1 : (chL p.cls).length = L := by rw [← hh, size_list, hcs]
                  rw [e1, ← hrr, List.getD_eq_getElem?_getD, List.getElem?_eq_getElem (by rw [e1]; exact hr)]
                  have : (chL p.cls)[r]'(by rw [e1]; exact hr) = (cs.data.toList)[r]'(by rw [hh, e1]; exact hr) := by simp [hh]
                  rw [Option.getD_some, this]
                  rfl
                have hss := smR_succ (chL p.cls) X k
                rw [← hgd] at hss
                have Hss := Lib.hid hss
                have hrw : IntKind.i64.wrap ((r : Int) + 1) = (r : Int) + 1 := IntWalk.i64_in _ (by omega)
                have hrL : (r : Int) < (L : Int) := by omega
                have hL0 : ¬ ((L : Int) = 0) := by omega
                generalize cs[r] = ch at *
                have hcat : ¬ 9223372036854775807 < xs2.size + (⟨#[ch]⟩ : ByteArray).size := by show ¬ 9223372036854775807 < xs2.size + 1; omega
                clear hss hgd hrr
                go_wp2_with fail
                refine (H97.out _).mono ?_
                rintro e w9 ⟨rfl, rfl⟩
                go_upto_region 20 with fail
                go_quiet (fail)
                have Hf := Lib.hid (hf.drewN nq)
                clear hf
                go_wp2_with fail
                go_roundw
                case rel => exact ⟨k + 1, xs2 ++ ⟨#[ch]⟩, rfl, by go_num, by omega, Lib.hid (by rw [Hss.out, ByteArray.data_append, Array.toList_append, hx2.out, List.append_assoc]), by rw [ByteArray.size_append]; show xs2.size + 1 ≤ _; omega, Hf.out⟩
                case measure => simp [intOf]; omega
              · have hatI : ¬ (((at0 : Int) + 1) < (l.length : Int)) := by omega
                have hX0 : X = 0 := by
                  have := HX.out
                  rw [List.tail_drop, List.drop_of_length_le (by omega)] at this
                  exact this.symm
                subst hX0
                obtain ⟨r, hrr⟩ : ∃ r, r = (k) % L := ⟨_, rfl⟩
                have hr : r < L := by rw [hrr]; exact Nat.mod_lt _ (by omega)
                have htm : Int.tmod (k : Int) (L : Int) = (r : Int) := by
                  rw [hrr, Int.tmod_eq_emod_of_nonneg (by omega)]
                  rfl
                have hsl := byte_at cs r (by rw [hcs]; exact hr)
                have hgd : (⟨#[cs[r]'(by rw [hcs]; exact hr)]⟩ : ByteArray).data.toList = [(chL p.cls).getD ((k) % (chL p.cls).length) 0] := by
                  have hh := HC.out
                  have e1 : (chL p.cls).length = L := by rw [← hh, size_list, hcs]
                  rw [e1, ← hrr, List.getD_eq_getElem?_getD, List.getElem?_eq_getElem (by rw [e1]; exact hr)]
                  have : (chL p.cls)[r]'(by rw [e1]; exact hr) = (cs.data.toList)[r]'(by rw [hh, e1]; exact hr) := by simp [hh]
                  rw [Option.getD_some, this]
                  rfl
                have hss := smR_succ (chL p.cls) 0 k
                rw [Nat.zero_add] at hss
                rw [← hgd] at hss
                have Hss := Lib.hid hss
                have hrw : IntKind.i64.wrap ((r : Int) + 1) = (r : Int) + 1 := IntWalk.i64_in _ (by omega)
                have hrL : (r : Int) < (L : Int) := by omega
                have hL0 : ¬ ((L : Int) = 0) := by omega
                generalize cs[r] = ch at *
                have hcat : ¬ 9223372036854775807 < xs2.size + (⟨#[ch]⟩ : ByteArray).size := by show ¬ 9223372036854775807 < xs2.size + 1; omega
                clear hss hgd hrr
                go_upto_region 20 with fail
                go_quiet (fail)
                have Hf := Lib.hid (hf.drewN nq)
                clear hf
                go_wp2_with fail
                go_roundw
                case rel => exact ⟨k + 1, xs2 ++ ⟨#[ch]⟩, rfl, by go_num, by omega, Lib.hid (by rw [Hss.out, ByteArray.data_append, Array.toList_append, hx2.out, List.append_assoc]), by rw [ByteArray.size_append]; show xs2.size + 1 ≤ _; omega, Hf.out⟩
                case measure => simp [intOf]; omega
            · obtain rfl : k = N := by omega
              have hend : ¬ ((k : Int) < (k : Int)) := by omega
              have hfin : xs2.data.toList ++ smpL (ps.drop (i + 1)) (l.drop (at0 + 1)) = smpL ps l := by
                rw [hx2.out, ← Hx2.out, List.tail_drop]
              have Hfin := Lib.hid hfin
              clear hfin
              go_wp2_with fail
              go_roundw
              case rel => exact ⟨at0 + 1, i + 1, xs2, by go_num, rfl, by go_num, hlt, by omega, Hfin, by omega, hf⟩
              case measure => simp [intOf]; omega
        · have hatI : ¬ ((at0 : Int) < (l.length : Int)) := by omega
          have hNv : p.lo = (N : Int) := by
            have := HNN.out
            rw [List.drop_of_length_le (by omega)] at this
            rw [this]
            show _ = ((p.lo.toNat : Nat) : Int)
            omega
          rw [hNv] at c1
          have Hf0 := Lib.hid hf
          clear hf
          go_wp2_with fail
          go_loopw [7, 10] (fun sx sk wr => ∃ (k : Nat) (xs2 : ByteArray), sx = .string xs2 ∧ sk = .int .i64 k ∧ k ≤ N ∧ Hid (xs2.data.toList = xs.data.toList ++ smR (chL p.cls) X k) ∧ xs2.size ≤ xs.size + k ∧ Frm (fun _ => False) W1 wr) (fun _ sk _ => N - (intOf sk).toNat)
          case atStart => exact ⟨0, xs, rfl, rfl, Nat.zero_le _, Lib.hid (by simp [smR]), by omega, Hf0.out⟩
          case round =>
            clear c0 c1 c2 c3
            obtain ⟨k, xs2, rfl, rfl, hk, hx2, hxz2, hf⟩ := hrel
            by_cases hkl : k < N
            · have hkl' : (k : Int) < (N : Int) := by omega
              obtain ⟨g', hao', ⟨c0, -, -, -⟩, -⟩ := (HP1.out.still hf).at' i hlt
              injection hao' with hao'
              injection hao' with hao' _ _
              subst hao'
              rw [hpi, Hq.out] at c0
              have cc := Hchq.out _ hf
              have hat1 : ¬ at0 + 1 < l.length := by omega
              have hatI : ¬ (((at0 : Int) + 1) < (l.length : Int)) := by omega
              have hX0 : X = 0 := by
                have := HX.out
                rw [List.tail_drop, List.drop_of_length_le (by omega)] at this
                exact this.symm
              subst hX0
              obtain ⟨r, hrr⟩ : ∃ r, r = (k) % L := ⟨_, rfl⟩
              have hr : r < L := by rw [hrr]; exact Nat.mod_lt _ (by omega)
              have htm : Int.tmod (k : Int) (L : Int) = (r : Int) := by
                rw [hrr, Int.tmod_eq_emod_of_nonneg (by omega)]
                rfl
              have hsl := byte_at cs r (by rw [hcs]; exact hr)
              have hgd : (⟨#[cs[r]'(by rw [hcs]; exact hr)]⟩ : ByteArray).data.toList = [(chL p.cls).getD ((k) % (chL p.cls).length) 0] := by
                have hh := HC.out
                have e1 : (chL p.cls).length = L := by rw [← hh, size_list, hcs]
                rw [e1, ← hrr, List.getD_eq_getElem?_getD, List.getElem?_eq_getElem (by rw [e1]; exact hr)]
                have : (chL p.cls)[r]'(by rw [e1]; exact hr) = (cs.data.toList)[r]'(by rw [hh, e1]; exact hr) := by simp [hh]
                rw [Option.getD_some, this]
                rfl
              have hss := smR_succ (chL p.cls) 0 k
              rw [Nat.zero_add] at hss
              rw [← hgd] at hss
              have Hss := Lib.hid hss
              have hrw : IntKind.i64.wrap ((r : Int) + 1) = (r : Int) + 1 := IntWalk.i64_in _ (by omega)
              have hrL : (r : Int) < (L : Int) := by omega
              have hL0 : ¬ ((L : Int) = 0) := by omega
              generalize cs[r] = ch at *
              have hcat : ¬ 9223372036854775807 < xs2.size + (⟨#[ch]⟩ : ByteArray).size := by show ¬ 9223372036854775807 < xs2.size + 1; omega
              clear hss hgd hrr
              go_upto_region 20 with fail
              go_quiet (fail)
              have Hf := Lib.hid (hf.drewN nq)
              clear hf
              go_wp2_with fail
              go_roundw
              case rel => exact ⟨k + 1, xs2 ++ ⟨#[ch]⟩, rfl, by go_num, by omega, Lib.hid (by rw [Hss.out, ByteArray.data_append, Array.toList_append, hx2.out, List.append_assoc]), by rw [ByteArray.size_append]; show xs2.size + 1 ≤ _; omega, Hf.out⟩
              case measure => simp [intOf]; omega
            · obtain rfl : k = N := by omega
              have hend : ¬ ((k : Int) < (k : Int)) := by omega
              have hfin : xs2.data.toList ++ smpL (ps.drop (i + 1)) (l.drop (at0 + 1)) = smpL ps l := by
                rw [hx2.out, ← Hx2.out, List.tail_drop]
              have Hfin := Lib.hid hfin
              clear hfin
              go_wp2_with fail
              go_roundw
              case rel => exact ⟨at0 + 1, i + 1, xs2, by go_num, rfl, by go_num, hlt, by omega, Hfin, by omega, hf⟩
              case measure => simp [intOf]; omega
    · have hres : xs.data.toList = smpL ps l := by
        have := hx.out
        rw [List.drop_of_length_le (by omega)] at this
        rw [← this]
        show _ = _ ++ []
        rw [List.append_nil]
      have Hres := Lib.hid hres
      have hend : ¬ ((i : Int) < (ps.length : Int)) := by omega
      clear hx hres hlt
      go_wp2_with fail
      go_ret
      refine ⟨?_, ?_, HF.out.trans hf⟩
      · unfold strV
        rw [← Hres.out]
        rfl
      · rw [← Hres.out, size_list]
        omega
end Go.Proofs.YtgnjakaamgeibaaDoor
