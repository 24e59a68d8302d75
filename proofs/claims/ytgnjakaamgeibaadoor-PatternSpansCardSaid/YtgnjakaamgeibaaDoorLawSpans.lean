/-
  PatternSpans: the law returns true. Conditions: the laid tables; the arguments lie in memory.
-/
import Derived.Test.YtgnjakaamgeibaaDoorSme
import Derived.Test.YtgnjakaamgeibaaDoorSan5
namespace Go.Proofs.YtgnjakaamgeibaaDoor
open Go.RowKit Go.Shelf
attribute [local go_sem] Oper.semAt_some

def Sp2 (ps : List Pc) (s : List UInt8) : Nat → List (Nat × Nat) → Prop
  | last, [] => last ≤ s.length ∧ (textB s = true → ∀ i j, last ≤ i → i < j → j ≤ s.length → matchB ps (seg s i j) = false)
  | last, (a, b) :: r => last ≤ a ∧ a < b ∧ b ≤ s.length ∧ matchB ps (seg s a b) = true ∧ (textB s = true → ∀ i j, last ≤ i → i < a → i < j → j ≤ s.length → matchB ps (seg s i j) = false) ∧ (∀ j, b < j → j ≤ s.length → matchB ps (seg s a j) = false) ∧ Sp2 ps s b r
theorem match_no {ps : List Pc} {t : List UInt8} (h : mtB ps t = false) : matchB ps t = false := by
  unfold matchB
  rw [h]
  simp
theorem seg_text {s : List UInt8} (h : textB s = true) (i j : Nat) : textB (seg s i j) = true := by
  unfold textB at h ⊢
  rw [Bool.and_eq_true, decide_eq_true_eq] at h ⊢
  refine ⟨?_, ?_⟩
  · unfold seg
    rw [List.length_drop, List.length_take]
    omega
  · unfold chrs at *
    rw [List.all_eq_true] at *
    intro c hc
    exact h.2 c ((List.take_sublist _ _).mem ((List.drop_sublist _ _).mem hc))
theorem sp2_of {ps : List Pc} {s : List UInt8} (hr : rightB ps = true) (ht : textB s = true) : ∀ (l : List (Nat × Nat)) (i : Nat), i ≤ s.length → SpOk ps s i l → Sp2 ps s i l
  | [], i, hi, h => ⟨hi, fun _ x j h1 h2 h3 => match_no (h x j h1 h2 h3)⟩
  | (a, b) :: r, i, hi, h => by
    obtain ⟨h1, h2, h3, h4, h5, h6, h7⟩ := h
    refine ⟨h1, h2, h3, ?_, fun _ x j a1 a2 a3 a4 => match_no (h5 x j a1 a2 a3 a4), fun j a1 a2 => match_no (h6 j a1 a2), sp2_of hr ht r b h3 h7⟩
    unfold matchB
    rw [hr, seg_text ht, h4]
    rfl
theorem sp2_finds (ps : List Pc) (s : List UInt8) : Sp2 ps s 0 (findsL ps s) := by
  rw [findsL_eq]
  cases hr : rightB ps
  · refine ⟨Nat.zero_le _, fun _ i j _ _ _ => ?_⟩
    unfold matchB
    rw [hr]
    rfl
  · cases ht : textB s
    · exact ⟨Nat.zero_le _, fun h => by rw [ht] at h; cases h⟩
    · exact sp2_of hr ht _ 0 (Nat.zero_le _) (fndA_ok ps s s.length 0 (by omega))
theorem slice_two (s : ByteArray) (i j : Nat) (hij : i ≤ j) (hj : j ≤ s.size) (W : World) : (Instr.slice 9 (.string s) (some (.int .i64 (i : Int))) (some (.int .i64 (j : Int))) none).run Tryd.prog W = .ok (.string (s.extract i j)) W := by
  have := run_slice_string (P := Tryd.prog) W 9 s .i64 .i64 (i : Int) (j : Int) Tryd.underlying9 (by omega) (by omega) (by omega)
  rw [this, Int.toNat_natCast, Int.toNat_natCast]

set_option maxRecDepth 100000 in
set_option maxHeartbeats 8000000 in
theorem law_spans {ao : Option Addr} {n cap : Nat} {l : List Int} (s : ByteArray) (w : World) (hT : Tabs w) (hI : IntsAt w ao l) (hn : l.length = n) (hb : n ≤ maxLen) (hs : s.size ≤ 9223372036854775807) :
    Calls Tryd.prog 15 #[.slice ao n cap, .string s] w fun e w' => e = .returned (.bool true) ∧ Frm (fun _ => False) w w' := by
  have HT := Lib.hid hT
  have HI := Lib.hid hI
  have Hn := Lib.hid hn
  have hct := cut_any s hs 30 (by decide)
  have ht30 : (s.extract 0 (min s.size 30)).size ≤ 30 := by rw [ByteArray.size_extract]; omega
  generalize s.extract 0 (min s.size 30) = t at *
  have Hct := Lib.hid hct
  have hl := size_list t
  clear hT hI hn hct
  go_enter Tryd.func15, Tryd.ntmps15
  go_wp2_with fail
  refine (sanity5_any w HT.out).mono ?_
  rintro e w1 ⟨rfl, f1⟩
  have F1 := Lib.hid f1
  clear f1
  go_wp2_with fail
  refine (made_any w1 (HI.out.still F1.out) Hn.out hb).mono ?_
  rintro e w2 ⟨v6, rfl, hP6, f2⟩
  obtain ⟨hsm, hln⟩ := md_small (made_ok l) (Nat.le_refl _)
  generalize madeL l = ps at *
  have F2 := Lib.hid (F1.out.trans f2)
  have HP6 := Lib.hid hP6
  clear f2 hP6
  go_wp2_with fail
  refine (Hct.out _).mono ?_
  rintro e w9 ⟨rfl, rfl⟩
  go_wp2_with fail
  refine (fcount_any w2 t (by omega) HP6.out hsm hln (HT.out.frm F2.out)).mono ?_
  rintro e w3 ⟨rfl, f3⟩
  have hsp := sp2_finds ps t.data.toList
  have hfl := finds_len ps t.data.toList
  rw [hl] at hfl
  have F3 := Lib.hid (F2.out.trans f3)
  have HP := Lib.hid (HP6.out.still f3)
  have hfd : ∀ (W : World) (k : Int), Frm (fun _ => False) w3 W → Calls Tryd.prog 50 #[v6, .string t, .int .i64 k] W fun e w' => e = .returned (.tuple #[.int .i64 (findO (findsL ps t.data.toList) k).1, .int .i64 (findO (findsL ps t.data.toList) k).2.1, .bool (findO (findsL ps t.data.toList) k).2.2]) ∧ Frm (fun _ => False) W w' :=
    fun W k f => find_any W t k (by omega) (HP.out.still f) hsm hln (HT.out.frm (F3.out.trans f))
  have Hfd := Lib.hid hfd
  generalize findsL ps t.data.toList = fl at *
  have Hsp := Lib.hid hsp
  have hn0 : ¬ ((fl.length : Int) < 0) := by omega
  have hn1 : ¬ ((t.size : Int) < (fl.length : Int)) := by omega
  clear hfd hsp f3 HP6
  go_wp2_with fail
  simp only [show decide ((fl.length : Int) < 0) = false from decide_eq_false (by omega), show decide (t.size < fl.length) = false from decide_eq_false (by omega), Bool.or_false]
  clear hn0 hn1
  go_loopw [7, 9] (fun sl sk wr => ∃ (last k : Nat), sl = .int .i64 last ∧ sk = .int .i64 k ∧ 1 ≤ k ∧ k ≤ fl.length + 2 ∧ last ≤ t.size ∧ Hid (k ≤ fl.length + 1 → Sp2 ps t.data.toList last (fl.drop (k - 1))) ∧ Frm (fun _ => False) w3 wr) (fun _ sk _ => fl.length + 2 - (intOf sk).toNat)
  case atStart => exact ⟨0, 1, rfl, rfl, Nat.le_refl _, by omega, Nat.zero_le _, Lib.hid fun _ => Hsp.out, Frm.refl _ _⟩
  case round =>
    clear Hsp
    obtain ⟨last, k, rfl, rfl, hk1, hk2, hlast, hS, hf⟩ := hrel
    by_cases hkn : k ≤ fl.length + 1
    · have hkn' : (k : Int) ≤ (fl.length : Int) + 1 := by omega
      have hS2 := hS.out hkn
      by_cases hkl : k ≤ fl.length
      · have hkl' : (k : Int) ≤ (fl.length : Int) := by omega
        have hlt : k - 1 < fl.length := by omega
        rw [List.drop_eq_getElem_cons hlt] at hS2
        have hfo : findO fl (k : Int) = ((fl[k - 1].1 : Int), (fl[k - 1].2 : Int), true) := by
          unfold findO
          rw [if_pos (by omega), show ((k : Int) - 1).toNat = k - 1 by omega, List.getElem?_eq_getElem hlt]
        have hdr : fl.drop (k - 1 + 1) = fl.drop (k + 1 - 1) := by rw [show k - 1 + 1 = k + 1 - 1 by omega]
        rw [hdr] at hS2
        generalize fl[k - 1] = ab at *
        obtain ⟨a, b⟩ := ab
        obtain ⟨hla, hab, hbt, hm, hg, hj, hrest⟩ := hS2
        rw [hl] at hbt
        simp only at hla hab hbt hm hg hj hrest hfo
        have HG : Hid (textB t.data.toList = true → ∀ i j, last ≤ i → i < a → i < j → j ≤ t.size → matchB ps (seg t.data.toList i j) = false) := Lib.hid fun h i j h1 h2 h3 h4 => hg h i j h1 h2 h3 (by omega)
        have HJ : Hid (∀ j, b < j → j ≤ t.size → matchB ps (seg t.data.toList a j) = false) := Lib.hid fun j h1 h2 => hj j h1 (by omega)
        have HM := Lib.hid hm
        have HR := Lib.hid hrest
        have hfc := Hfd.out wr k hf
        rw [hfo] at hfc
        have Hfc := Lib.hid hfc
        have q1 : ¬ ((a : Int) < (last : Int)) := by omega
        have q2 : ¬ ((b : Int) < (a : Int)) := by omega
        have q3 : ¬ ((t.size : Int) < (b : Int)) := by omega
        have q4 : ((a : Int) == (b : Int)) = false := by rw [beq_eq_false_iff_ne]; omega
        have hsl := slice_two t a b (by omega) hbt
        clear hg hj hm hrest hfc hfo hS hdr
        go_wp2_with fail
        refine Hfc.out.mono ?_
        rintro e u1 ⟨rfl, g1⟩
        have hf1 := hf.trans g1
        clear hf g1
        go_wp2_with fail
        refine (matches_any _ (t.extract a b) (by rw [ByteArray.size_extract]; omega) (HP.out.still hf1) hsm hln (HT.out.frm (F3.out.trans hf1))).mono ?_
        rintro e u ⟨rfl, g⟩
        have hmm : matchB ps (t.extract a b).data.toList = true := by rw [ext_toList]; exact HM.out
        rw [hmm]
        have HU := Lib.hid (hf1.trans g)
        clear hmm g
        have Hf := HU
        clear hf1 HU
        go_wp2_with fail
        have Hkl := Lib.hid hkl
        simp only [show decide (a < last) = false from decide_eq_false (by omega), show decide (b < a) = false from decide_eq_false (by omega), show decide (t.size < b) = false from decide_eq_false (by omega), Bool.or_false]
        have Hla := Lib.hid hla
        have Hab := Lib.hid hab
        have Hbt := Lib.hid hbt
        clear hkl hkn hkn' hkl' hlt q1 q2 q3 q4 hsl hla hab hbt
        go_loopw [13] (fun si wr => ∃ i : Nat, si = .int .i64 i ∧ last ≤ i ∧ i ≤ a ∧ Frm (fun _ => False) w3 wr) (fun si _ => a - (intOf si).toNat)
        case atStart => exact ⟨last, rfl, Nat.le_refl _, Hla.out, Hf.out⟩
        case round =>
          clear Hf
          obtain ⟨i, rfl, hi1, hi2, hf⟩ := hrel
          by_cases hia : i < a
          · have hia' : (i : Int) < ((a : Nat) : Int) := by omega
            have Hf := Lib.hid hf
            clear hf
            go_wp2_with fail
            have Hia := Lib.hid hia
            clear hia hia'
            go_loopw [14] (fun sj wr => ∃ j : Nat, sj = .int .i64 j ∧ i < j ∧ j ≤ t.size + 1 ∧ Frm (fun _ => False) w3 wr) (fun sj _ => t.size + 1 - (intOf sj).toNat)
            case atStart => exact ⟨i + 1, by have := Hia.out; go_num, by omega, by have := Hia.out; omega, Hf.out⟩
            case round =>
              clear Hf
              obtain ⟨j, rfl, hj1, hj2, hf⟩ := hrel
              by_cases hjt : j ≤ t.size
              · have hjt' : (j : Int) ≤ (t.size : Int) := by omega
                go_wp2_with fail
                refine (risText_any t (by omega) _).mono ?_
                rintro e u0 ⟨rfl, rfl⟩
                cases htx : textB t.data.toList
                · have Hf := Lib.hid hf
                  clear hf
                  go_wp2_with fail
                  go_roundw
                  case rel => exact ⟨i + 1, by have := Hia.out; go_num, by omega, by have := Hia.out; omega, Hf.out⟩
                  case measure => have := Hia.out; simp [intOf]; omega
                · have hmf := HG.out htx i j hi1 Hia.out hj1 hjt
                  have hsl := slice_two t i j (by omega) hjt
                  have Hmf := Lib.hid hmf
                  clear hmf
                  go_wp2_with fail
                  refine (matches_any _ (t.extract i j) (by rw [ByteArray.size_extract]; omega) (HP.out.still hf) hsm hln (HT.out.frm (F3.out.trans hf))).mono ?_
                  rintro e u ⟨rfl, g⟩
                  have hmm : matchB ps (t.extract i j).data.toList = false := by rw [ext_toList]; exact Hmf.out
                  rw [hmm]
                  have HU := Lib.hid (hf.trans g)
                  clear hmm g
                  clear hf
                  go_wp2_with fail
                  go_roundw
                  case rel => exact ⟨j + 1, by go_num, by omega, by omega, HU.out⟩
                  case measure => simp [intOf]; omega
              · have hjt' : ¬ ((j : Int) ≤ (t.size : Int)) := by omega
                have Hf := Lib.hid hf
                clear hf
                go_wp2_with fail
                go_roundw
                case rel => exact ⟨i + 1, by have := Hia.out; go_num, by omega, by have := Hia.out; omega, Hf.out⟩
                case measure => have := Hia.out; simp [intOf]; omega
          · have hia' : ¬ ((i : Int) < ((a : Nat) : Int)) := by omega
            have Hf := Lib.hid hf
            clear hf
            go_wp2_with fail
            go_loopw [15] (fun sj wr => ∃ j : Nat, sj = .int .i64 j ∧ b < j ∧ j ≤ t.size + 1 ∧ Frm (fun _ => False) w3 wr) (fun sj _ => t.size + 1 - (intOf sj).toNat)
            case atStart => exact ⟨b + 1, by have := Hbt.out; go_num, by omega, by have := Hbt.out; omega, Hf.out⟩
            case round =>
              clear Hf
              obtain ⟨j, rfl, hj1, hj2, hf⟩ := hrel
              by_cases hjt : j ≤ t.size
              · have hjt' : (j : Int) ≤ (t.size : Int) := by omega
                have hmf := HJ.out j hj1 hjt
                have hsl2 := slice_two t a j (by have := Hab.out; omega) hjt
                have Hmf := Lib.hid hmf
                clear hmf
                go_wp2_with fail
                refine (matches_any _ (t.extract a j) (by rw [ByteArray.size_extract]; omega) (HP.out.still hf) hsm hln (HT.out.frm (F3.out.trans hf))).mono ?_
                rintro e u ⟨rfl, g⟩
                have hmm : matchB ps (t.extract a j).data.toList = false := by rw [ext_toList]; exact Hmf.out
                rw [hmm]
                have HU := Lib.hid (hf.trans g)
                clear hmm g
                clear hf
                go_wp2_with fail
                go_roundw
                case rel => exact ⟨j + 1, by go_num, by omega, by omega, HU.out⟩
                case measure => simp [intOf]; omega
              · have hjt' : ¬ ((j : Int) ≤ (t.size : Int)) := by omega
                have Hf := Lib.hid hf
                clear hf
                go_wp2_with fail
                go_roundw
                case rel => exact ⟨b, k + 1, rfl, by have := Hkl.out; go_num, by omega, by have := Hkl.out; omega, Hbt.out, Lib.hid fun _ => HR.out, Hf.out⟩
                case measure => have := Hkl.out; simp [intOf]; omega
      · have hkl' : ¬ ((k : Int) ≤ (fl.length : Int)) := by omega
        have hk0 : k = fl.length + 1 := by omega
        have hd0 : fl.drop (k - 1) = [] := List.drop_of_length_le (by omega)
        rw [hd0] at hS2
        have hfo : findO fl (k : Int) = (0, 0, false) := findO_no (by omega)
        have hfc := Hfd.out wr k hf
        rw [hfo] at hfc
        have Hfc := Lib.hid hfc
        have HG : Hid (textB t.data.toList = true → ∀ i j, last ≤ i → i < t.size → i < j → j ≤ t.size → matchB ps (seg t.data.toList i j) = false) := Lib.hid fun h i j h1 h2 h3 h4 => hS2.2 h i j h1 h3 (by omega)
        have q1 : ¬ ((t.size : Int) < (last : Int)) := by omega
        have q5 : ¬ ((t.size : Int) + 1 ≤ (t.size : Int)) := by omega
        have hla : last ≤ t.size := hlast
        have Hk0 := Lib.hid hk0
        clear hfc hfo hS2 hS hd0 hk0
        go_wp2_with fail
        refine Hfc.out.mono ?_
        rintro e u1 ⟨rfl, g1⟩
        have Hf := Lib.hid (hf.trans g1)
        clear hf g1
        go_wp2_with fail
        simp only [show decide (t.size < last) = false from decide_eq_false (by omega)]
        have Hla := Lib.hid hla
        clear q1 hkl' hkn hkn' hkl hla hlast
        go_loopw [13] (fun si wr => ∃ i : Nat, si = .int .i64 i ∧ last ≤ i ∧ i ≤ t.size ∧ Frm (fun _ => False) w3 wr) (fun si _ => t.size - (intOf si).toNat)
        case atStart => exact ⟨last, rfl, Nat.le_refl _, Hla.out, Hf.out⟩
        case round =>
          clear Hf
          obtain ⟨i, rfl, hi1, hi2, hf⟩ := hrel
          by_cases hia : i < t.size
          · have hia' : (i : Int) < ((t.size : Nat) : Int) := by omega
            have Hf := Lib.hid hf
            clear hf
            go_wp2_with fail
            have Hia := Lib.hid hia
            clear hia hia'
            go_loopw [14] (fun sj wr => ∃ j : Nat, sj = .int .i64 j ∧ i < j ∧ j ≤ t.size + 1 ∧ Frm (fun _ => False) w3 wr) (fun sj _ => t.size + 1 - (intOf sj).toNat)
            case atStart => exact ⟨i + 1, by have := Hia.out; go_num, by omega, by have := Hia.out; omega, Hf.out⟩
            case round =>
              clear Hf
              obtain ⟨j, rfl, hj1, hj2, hf⟩ := hrel
              by_cases hjt : j ≤ t.size
              · have hjt' : (j : Int) ≤ (t.size : Int) := by omega
                go_wp2_with fail
                refine (risText_any t (by omega) _).mono ?_
                rintro e u0 ⟨rfl, rfl⟩
                cases htx : textB t.data.toList
                · have Hf := Lib.hid hf
                  clear hf
                  go_wp2_with fail
                  go_roundw
                  case rel => exact ⟨i + 1, by have := Hia.out; go_num, by omega, by have := Hia.out; omega, Hf.out⟩
                  case measure => have := Hia.out; simp [intOf]; omega
                · have hmf := HG.out htx i j hi1 Hia.out hj1 hjt
                  have hsl := slice_two t i j (by omega) hjt
                  have Hmf := Lib.hid hmf
                  clear hmf
                  go_wp2_with fail
                  refine (matches_any _ (t.extract i j) (by rw [ByteArray.size_extract]; omega) (HP.out.still hf) hsm hln (HT.out.frm (F3.out.trans hf))).mono ?_
                  rintro e u ⟨rfl, g⟩
                  have hmm : matchB ps (t.extract i j).data.toList = false := by rw [ext_toList]; exact Hmf.out
                  rw [hmm]
                  have HU := Lib.hid (hf.trans g)
                  clear hmm g
                  clear hf
                  go_wp2_with fail
                  go_roundw
                  case rel => exact ⟨j + 1, by go_num, by omega, by omega, HU.out⟩
                  case measure => simp [intOf]; omega
              · have hjt' : ¬ ((j : Int) ≤ (t.size : Int)) := by omega
                have Hf := Lib.hid hf
                clear hf
                go_wp2_with fail
                go_roundw
                case rel => exact ⟨i + 1, by have := Hia.out; go_num, by omega, by have := Hia.out; omega, Hf.out⟩
                case measure => have := Hia.out; simp [intOf]; omega
          · have hia' : ¬ ((i : Int) < ((t.size : Nat) : Int)) := by omega
            have Hf := Lib.hid hf
            clear hf
            go_wp2_with fail
            go_loopw [15] (fun sj wr => sj = .int .i64 ((t.size : Int) + 1) ∧ Frm (fun _ => False) w3 wr) (fun _ _ => 0)
            case atStart => exact ⟨by go_num, Hf.out⟩
            case round =>
              clear Hf
              obtain ⟨rfl, hf⟩ := hrel
              have Hf := Lib.hid hf
              clear hf
              go_wp2_with fail
              go_roundw
              case rel => exact ⟨t.size, k + 1, rfl, by have := Hk0.out; go_num, by omega, by have := Hk0.out; omega, Nat.le_refl _, Lib.hid fun h => absurd Hk0.out (by omega), Hf.out⟩
              case measure => have := Hk0.out; simp [intOf]; omega
    · have hkn' : ¬ ((k : Int) ≤ (fl.length : Int) + 1) := by omega
      have Hf := Lib.hid hf
      clear hf hS
      go_wp2_with fail
      go_ret
      exact ⟨rfl, F3.out.trans Hf.out⟩
end Go.Proofs.YtgnjakaamgeibaaDoor
