/-
  The law DateTexts. Conditions: the package variables read as the text lays them; the text within reach.
-/
import Derived.Test.YtmpfgdpicbpedaaDoorRTwo
import Derived.Lib.AtoiErrMem
import Derived.Laws.IdiomStrings
namespace Go.Proofs.YtmpfgdpicbpedaaDoor
open Go.RowKit Go.Shelf
attribute [local go_sem] Oper.semAt_some

/-- Text of both sides. -/
theorem text_two (n : Int) (w : World) (hT : Tabs w) : Calls Tryd.prog 27 #[.int .i64 n] w fun e w' => Frm (fun _ => False) w w' ∧ ∃ X : ByteArray, e = .returned (.string X) ∧ X.size ≤ 100 ∧ ((X.size = 0 ∧ inB n = false) ∨ (0 < X.size ∧ IsDay isoL X.data.toList n)) ∧ ∀ w2, Calls Tryd.prog 28 #[.int .i64 n] w2 fun e2 w3 => e2 = e ∧ Frm (fun _ => False) w2 w3 := by
  refine (text_any n w hT).mono ?_
  rintro e w' ⟨h, f⟩
  refine ⟨f, ?_⟩
  have two : ∀ w2, Calls Tryd.prog 28 #[.int .i64 n] w2 fun e2 w3 => e2 = e ∧ Frm (fun _ => False) w2 w3 := fun w2 => (rtext_any n w2).mono fun e2 w3 ⟨h2, f2⟩ => ⟨h2.uniq h, f2⟩
  rcases h with ⟨hn, rfl⟩ | ⟨y, m, d, hc, rfl⟩
  · exact ⟨⟨#[]⟩, rfl, Nat.zero_le _, .inl ⟨rfl, hn⟩, two⟩
  · have hd : IsDay isoL (fmtL y m d isoL) n := ⟨iso_right, y, m, d, hc, rfl⟩
    have hl := (iso_iff.1 hd).1
    have hs : (⟨(fmtL y m d isoL).toArray⟩ : ByteArray).size = 10 := by
      show (fmtL y m d isoL).toArray.size = 10
      rw [List.size_toArray, hl]
    exact ⟨⟨(fmtL y m d isoL).toArray⟩, rfl, by omega, .inr ⟨by omega, hd⟩, two⟩

theorem parse_two (s : ByteArray) (hs : s.size ≤ 9223372036854775807) (w : World) (hT : Tabs w) : Calls Tryd.prog 29 #[.string s] w fun e w' => Frm (fun _ => False) w w' ∧ ∃ (n : Int) (b : Bool), e = .returned (.tuple #[.int .i64 n, .bool b]) ∧ ∀ w2, Calls Tryd.prog 30 #[.string s] w2 fun e2 w3 => e2 = e ∧ w2 = w3 := by
  refine (dparse_any s hs w hT).mono ?_
  rintro e w' ⟨h, f⟩
  obtain ⟨n, b, rfl⟩ := h.shape
  exact ⟨f, n, b, rfl, fun w2 => (rparse_any s hs w2).mono fun e2 w3 ⟨h2, e3⟩ => ⟨h2.uniq h, e3⟩⟩

set_option maxRecDepth 100000 in
set_option maxHeartbeats 4000000 in
theorem law_texts (n : Int) (raw : ByteArray) (c0 c1 : Int) (w : World) (hT : Tabs w) (_hn : -9223372036854775808 ≤ n ∧ n ≤ 9223372036854775807) (hraw : raw.size ≤ 9223372036854775807) (hc0 : 0 ≤ c0 ∧ c0 ≤ 255) (hc1 : 0 ≤ c1 ∧ c1 ≤ 255) :
    Calls Tryd.prog 11 #[.int .i64 n, .string raw, .agg #[.int .u8 c0, .int .u8 c1]] w fun e w' => e = .returned (.bool true) ∧ Frm (fun _ => False) w w' := by
  obtain ⟨a0, a1⟩ := hc0
  obtain ⟨a2, a3⟩ := hc1
  go_enter Tryd.func11, Tryd.ntmps11
  go_wp2_with fail
  have h0 := (Own.start w).box #[.int .u8 c0, .int .u8 c1] 54
  obtain ⟨W0, hW0⟩ : ∃ W, W = w.alloc (.cells #[.int .u8 c0, .int .u8 c1] 54) := ⟨_, rfl⟩
  obtain ⟨A, hA⟩ : ∃ b, b = w.heap.size := ⟨_, rfl⟩
  rw [← hW0, ← hA] at h0 ⊢
  clear hW0 hA
  refine (sanity_any W0 (hT.frm h0.frm)).mono ?_
  rintro e W1 ⟨rfl, f1⟩
  have h1 := h0.still f1
  clear f1 h0
  go_wp2_with fail
  generalize bits BinOp.and IntKind.i64 n 4194303 = k
  refine (text_two k W1 (hT.frm h1.frm)).mono ?_
  rintro e W2 ⟨f2, S, rfl, hS, hSk, hr2⟩
  have h2 := h1.still f2
  clear f2 h1
  have Hr2 := Lib.hid hr2
  have HSk := Lib.hid hSk
  clear hr2 hSk
  go_wp2_with fail
  refine (Hr2.out _).mono ?_
  rintro e W3 ⟨rfl, f3⟩
  have h3 := h2.still f3
  clear f3 h2 Hr2
  have eS : (S.toList == S.toList) = true := by simp
  have eS2 : (S.toList != S.toList) = false := by simp
  go_wp2_with fail
  refine (text_two n W3 (hT.frm h3.frm)).mono ?_
  rintro e W4 ⟨f4, X, rfl, hX, -, hr4⟩
  have h4 := h3.still f4
  clear f4 h3
  have Hr4 := Lib.hid hr4
  clear hr4
  go_wp2_with fail
  refine (Hr4.out _).mono ?_
  rintro e W5 ⟨rfl, f5⟩
  have h5 := h4.still f5
  clear f5 h4 Hr4
  have eX : (X.toList == X.toList) = true := by simp
  have eX2 : (X.toList != X.toList) = false := by simp
  go_wp2_with fail
  refine (dparse_any S (by omega) W5 (hT.frm h5.frm)).mono ?_
  rintro e W6 ⟨hp, f6⟩
  have h6 := h5.still f6
  clear f6 h5
  have hcvt : ∀ w : World, (convert 9 48 (.string S)).run Tryd.prog w = .ok (.slice (some ⟨w.heap.size, 0, none⟩) S.size (grownCap w S.size 0 5)) (Lib.bytesWorld w 5 S) := fun w => Lib.run_convert_string_bytes w 9 48 5 S Tryd.underlying9 Tryd.underlying48 Tryd.underlying5
  rcases HSk.out with ⟨hz, hin⟩ | ⟨hpos, hday⟩
  · have hno : ∀ n, ¬ IsDay isoL S.data.toList n := fun n hn => by
      have := (iso_iff.1 hn).1
      rw [size_toList] at this
      omega
    have he : e = .returned (.tuple #[.int .i64 0, .bool false]) := by
      rcases hp with ⟨-, he⟩ | ⟨n, hn, -⟩
      · exact he
      · exact absurd hn (hno n)
    subst he
    have hnil : S.data.toList = [] := List.eq_nil_of_length_eq_zero (by rw [size_toList]; exact hz)
    have t1 : S.toList = [] := by rw [toList_data]; exact hnil
    have t2 : (S.toList != []) = false := by rw [t1]; rfl
    have t3 : ¬ ((0 : Int) < (S.size : Int)) := by omega
    have t4 : decide ((0 : Int) < (S.size : Int)) = false := decide_eq_false t3
    have t5 : (!S.toList.isEmpty) = false := by rw [t1]; rfl
    have T1 := Lib.hid t1
    have Hnil := Lib.hid hnil
    have Hz := Lib.hid hz
    clear hp hno hin hz HSk eS eS2 hnil t1
    go_upto_region 12 with fail
    try (rename (S.toList = []) => h1; clear h1)
    try (rename (¬ 0 < S.size) => h2; clear h2)
    have f7 : Frm (fun _ => False) W6 (Lib.bytesWorld W6 5 S) := Frm.of_below (Lib.bytesWorld_below W6 5 S)
    have hback : (convert 48 9 (.slice (some ⟨W6.heap.size, 0, none⟩) S.size (grownCap W6 S.size 0 5))).run Tryd.prog (Lib.bytesWorld W6 5 S) = .ok (.string ⟨#[]⟩) (Lib.bytesWorld W6 5 S) := by
      have := Go.run_convert_bytes_back (P := Tryd.prog) (Lib.bytesWorld W6 5 S) 48 9 5 ⟨W6.heap.size, 0, none⟩ (grownCap W6 S.size 0 5) [] Tryd.underlying48 Tryd.underlying5 Tryd.underlying9 (fun j hj => absurd hj (Nat.not_lt_zero _))
      rw [Hz.out]
      exact this
    obtain ⟨Y, hY⟩ : ∃ Y : ByteArray, Y = ⟨#[]⟩ := ⟨_, rfl⟩
    have hYs : Y.size ≤ 200 := by rw [hY]; decide
    rw [← hY] at hback
    have f8 := (h6.still f7).frm
    generalize W6.heap.size = D at hback ⊢
    generalize grownCap W6 S.size 0 5 = cp at hback ⊢
    generalize Lib.bytesWorld W6 5 S = W8 at hback f8 ⊢
    clear hY f7 h6 hcvt t2 t3 t4 t5
    go_wp2_with fail
    obtain ⟨W9, hW9⟩ : ∃ W, W = W8.alloc (.cells #[.string Y, .string raw, .string (S ++ ⟨#[48]⟩), .string (⟨#[48]⟩ ++ S)] 9) := ⟨_, rfl⟩
    obtain ⟨E, hE⟩ : ∃ b, b = W8.heap.size := ⟨_, rfl⟩
    have hc := new_cells W8 #[.string Y, .string raw, .string (S ++ ⟨#[48]⟩), .string (⟨#[48]⟩ ++ S)] 9 W8.heap.size rfl
    have f9 : Frm (fun _ => False) w W9 := by rw [hW9]; exact f8.alloc _
    rw [← hW9, ← hE] at hc ⊢
    clear hW9 hE f8 hback
    have e0 : W9.cell? ⟨E, 0, none⟩ = some (.string Y) := hc 0 _ rfl
    have e1 : W9.cell? ⟨E, 1, none⟩ = some (.string raw) := hc 1 _ rfl
    have e2 : W9.cell? ⟨E, 2, none⟩ = some (.string (S ++ ⟨#[48]⟩)) := hc 2 _ rfl
    have e3 : W9.cell? ⟨E, 3, none⟩ = some (.string (⟨#[48]⟩ ++ S)) := hc 3 _ rfl
    have s2 : (S ++ ⟨#[48]⟩ : ByteArray).size ≤ 9223372036854775807 := by rw [ByteArray.size_append]; show S.size + 1 ≤ _; omega
    have s3 : (⟨#[48]⟩ ++ S : ByteArray).size ≤ 9223372036854775807 := by rw [ByteArray.size_append]; show 1 + S.size ≤ _; omega
    have sY : Y.size ≤ 9223372036854775807 := by omega
    generalize (S ++ ⟨#[48]⟩ : ByteArray) = T2 at e2 s2 ⊢
    generalize (⟨#[48]⟩ ++ S : ByteArray) = T3 at e3 s3 ⊢
    clear hc
    go_loopw [76] (fun i wr => ∃ m : Nat, i = .int .i64 m ∧ m ≤ 4 ∧ Frm (fun _ => False) W9 wr) (fun i _ => 4 - (intOf i).toNat)
    case atStart => exact ⟨0, rfl, by omega, Frm.refl _ _⟩
    case round =>
      obtain ⟨m, rfl, hm, hf⟩ := hrel
      have fz := f9.trans hf
      by_cases h5 : m = 4
      · subst h5
        clear e0 e1 e2 e3
        go_wp2_with fail
        go_ret
        exact ⟨rfl, fz⟩
      · have hm2 : m = 0 ∨ m = 1 ∨ m = 2 ∨ m = 3 := by omega
        clear h5 hm
        rcases hm2 with rfl | rfl | rfl | rfl
        · have d0 := hf.cell e0 (fun h => h)
          clear e0 e1 e2 e3
          go_wp2_with fail
          refine (parse_two Y sY _ (hT.frm fz)).mono ?_
          rintro e w9 ⟨g9, u, b, rfl, h2⟩
          have fw := hf.trans g9
          have H2 := Lib.hid h2
          clear g9 h2 d0 hf fz
          go_wp2_with fail
          refine (H2.out _).mono ?_
          rintro e w10 ⟨rfl, rfl⟩
          clear H2
          cases b
          all_goals
            go_wp2_with fail
            go_roundw
            case rel => exact ⟨1, by go_num, by omega, fw⟩
            case measure => simp [intOf]
        · have d0 := hf.cell e1 (fun h => h)
          clear e0 e1 e2 e3
          go_wp2_with fail
          refine (parse_two raw hraw _ (hT.frm fz)).mono ?_
          rintro e w9 ⟨g9, u, b, rfl, h2⟩
          have fw := hf.trans g9
          have H2 := Lib.hid h2
          clear g9 h2 d0 hf fz
          go_wp2_with fail
          refine (H2.out _).mono ?_
          rintro e w10 ⟨rfl, rfl⟩
          clear H2
          cases b
          all_goals
            go_wp2_with fail
            go_roundw
            case rel => exact ⟨2, by go_num, by omega, fw⟩
            case measure => simp [intOf]
        · have d0 := hf.cell e2 (fun h => h)
          clear e0 e1 e2 e3
          go_wp2_with fail
          refine (parse_two T2 s2 _ (hT.frm fz)).mono ?_
          rintro e w9 ⟨g9, u, b, rfl, h2⟩
          have fw := hf.trans g9
          have H2 := Lib.hid h2
          clear g9 h2 d0 hf fz
          go_wp2_with fail
          refine (H2.out _).mono ?_
          rintro e w10 ⟨rfl, rfl⟩
          clear H2
          cases b
          all_goals
            go_wp2_with fail
            go_roundw
            case rel => exact ⟨3, by go_num, by omega, fw⟩
            case measure => simp [intOf]
        · have d0 := hf.cell e3 (fun h => h)
          clear e0 e1 e2 e3
          go_wp2_with fail
          refine (parse_two T3 s3 _ (hT.frm fz)).mono ?_
          rintro e w9 ⟨g9, u, b, rfl, h2⟩
          have fw := hf.trans g9
          have H2 := Lib.hid h2
          clear g9 h2 d0 hf fz
          go_wp2_with fail
          refine (H2.out _).mono ?_
          rintro e w10 ⟨rfl, rfl⟩
          clear H2
          cases b
          all_goals
            go_wp2_with fail
            go_roundw
            case rel => exact ⟨4, by go_num, by omega, fw⟩
            case measure => simp [intOf]
  · have he : e = .returned (.tuple #[.int .i64 k, .bool true]) := by
      rcases hp with ⟨hno, -⟩ | ⟨n, hn, he⟩
      · exact absurd hday (hno k)
      · rw [he, hn.uniq hday]
    subst he
    have t1 : (S.toList != []) = true := by
      rw [bne_iff_ne, toList_data]
      intro e
      have := congrArg List.length e
      rw [size_toList, List.length_nil] at this
      omega
    have t2 : (!S.toList.isEmpty) = true := by
      have t3 := bne_iff_ne.1 t1
      cases hl : S.toList with
      | nil => exact absurd hl t3
      | cons a l => rfl
    have Hpos := Lib.hid hpos
    clear hp hday HSk eS eS2
    go_upto_region 11 with fail
    have hD : (Lib.bytesWorld W6 5 S).heap[W6.heap.size]? = some _ := Lib.bytesWorld_at_new W6 5 S
    have hcell : ∀ j, j < S.size → (Lib.bytesWorld W6 5 S).cell? ⟨W6.heap.size, j, none⟩ = some (.int .u8 (S.data.toList.getD j 0).toNat) := fun j hj => Lib.bytesWorld_cell W6 5 S j hj
    have f7 : Frm (fun _ => False) W6 (Lib.bytesWorld W6 5 S) := Frm.of_below (Lib.bytesWorld_below W6 5 S)
    have h7 := h6.still f7
    have hsz : S.size ≤ (Lib.bytesCells W6 5 S).size := by
      unfold Lib.bytesCells
      rw [Array.size_append, Array.size_map]
      show S.size ≤ S.size + _
      omega
    have hfz : ∀ j, j < S.size → (Lib.bytesWorld W6 5 S).frozen? ⟨W6.heap.size, j, none⟩ = false := fun j hj => by
      simp only [World.frozen?, hD]
      simp
      omega
    obtain ⟨D, hDD⟩ : ∃ D, D = W6.heap.size := ⟨_, rfl⟩
    obtain ⟨W7, hW7⟩ : ∃ W, W = Lib.bytesWorld W6 5 S := ⟨_, rfl⟩
    obtain ⟨cp, hcp⟩ : ∃ c, c = grownCap W6 S.size 0 5 := ⟨_, rfl⟩
    rw [← hW7, ← hDD] at hcell hfz
    rw [← hW7] at h7 f7
    rw [← hW7, ← hDD, ← hcp]
    have hDn : w.heap.size ≤ D := by rw [hDD]; exact h6.frm.size
    clear hW7 hDD hD hsz hcp h6
    obtain ⟨j, hj⟩ : ∃ j : Nat, c0 % (S.size : Int) = j := ⟨(c0 % (S.size : Int)).toNat, by have := Hpos.out; have := Int.emod_nonneg c0 (show (S.size : Int) ≠ 0 by omega); omega⟩
    have hj2 : j < S.size := by have := Hpos.out; have := Int.emod_lt_of_pos c0 (show (0 : Int) < S.size by omega); omega
    have tj : c0.tmod (S.size : Int) = j := by rw [Int.tmod_eq_emod_of_nonneg a0]; exact hj
    have nz : ¬ ((S.size : Int) = 0) := by have := Hpos.out; omega
    have g1 := hcell j hj2
    have g2 := hfz j hj2
    obtain ⟨x0, x1⟩ : W7.cell? ⟨A, 0, none⟩ = some (.int .u8 c0) ∧ W7.cell? ⟨A, 1, none⟩ = some (.int .u8 c1) := by
      have hA := h7.obj (x := A) (cs := #[.int .u8 c0, .int .u8 c1]) (t := 54) 0 rfl
      exact ⟨by rw [cell_of_row W7 A 0 _ _ _ hA]; rfl, by rw [cell_of_row W7 A 1 _ _ _ hA]; rfl⟩
    have Hcell := Lib.hid hcell
    have Hj := Lib.hid hj
    clear hcell hfz hj Hpos t1 t2 hcvt
    go_region
    have f8 : Frm (fun _ => False) w ((W7.setCell ⟨D, j, none⟩ (.int .u8 c1)).drew) := (h7.frm.setCell (p := ⟨D, j, none⟩) (.inr hDn) _).drew
    have hlen : (S.data.toList.set j (UInt8.ofNat c1.toNat)).length = S.size := by rw [List.length_set, size_toList]
    have hback : (convert 48 9 (.slice (some ⟨D, 0, none⟩) S.size cp)).run Tryd.prog ((W7.setCell ⟨D, j, none⟩ (.int .u8 c1)).drew) = .ok (.string ⟨(S.data.toList.set j (UInt8.ofNat c1.toNat)).toArray⟩) ((W7.setCell ⟨D, j, none⟩ (.int .u8 c1)).drew) := by
      have := Go.run_convert_bytes_back (P := Tryd.prog) ((W7.setCell ⟨D, j, none⟩ (.int .u8 c1)).drew) 48 9 5 ⟨D, 0, none⟩ cp (S.data.toList.set j (UInt8.ofNat c1.toNat)) Tryd.underlying48 Tryd.underlying5 Tryd.underlying9 (fun i hi => by
        rw [hlen] at hi
        rw [Addr.add_lit, Nat.zero_add]
        show (W7.setCell ⟨D, j, none⟩ (.int .u8 c1)).cell? _ = _
        by_cases e : i = j
        · subst e
          rw [World.cell?_setCell_same' _ _ _ (by rw [g1]; rfl), List.getElem_set_self, UInt8.toNat_ofNat']
          congr 2
          omega
        · rw [World.cell?_setCell_other _ _ _ _ (by intro h; injection h with _ h; exact e h.symm), Hcell.out i hi, List.getElem_set_ne (fun h => e h.symm)]
          simp [List.getD, List.getElem?_eq_getElem (show i < S.data.toList.length by rw [size_toList]; exact hi)])
      rw [hlen] at this
      exact this
    obtain ⟨Y, hY⟩ : ∃ Y : ByteArray, Y = ⟨(S.data.toList.set j (UInt8.ofNat c1.toNat)).toArray⟩ := ⟨_, rfl⟩
    have hYs : Y.size ≤ 200 := by
      rw [hY]
      show (S.data.toList.set j (UInt8.ofNat c1.toNat)).toArray.size ≤ _
      rw [List.size_toArray, hlen]
      omega
    rw [← hY] at hback
    generalize (W7.setCell ⟨D, j, none⟩ (.int .u8 c1)).drew = W8 at hback f8 ⊢
    clear hY hlen Hcell g1 g2 x0 x1 tj nz Hj hj2 h7 f7
    go_wp2_with fail
    obtain ⟨W9, hW9⟩ : ∃ W, W = W8.alloc (.cells #[.string Y, .string raw, .string (S ++ ⟨#[48]⟩), .string (⟨#[48]⟩ ++ S)] 9) := ⟨_, rfl⟩
    obtain ⟨E, hE⟩ : ∃ b, b = W8.heap.size := ⟨_, rfl⟩
    have hc := new_cells W8 #[.string Y, .string raw, .string (S ++ ⟨#[48]⟩), .string (⟨#[48]⟩ ++ S)] 9 W8.heap.size rfl
    have f9 : Frm (fun _ => False) w W9 := by rw [hW9]; exact f8.alloc _
    rw [← hW9, ← hE] at hc ⊢
    clear hW9 hE f8 hback
    have e0 : W9.cell? ⟨E, 0, none⟩ = some (.string Y) := hc 0 _ rfl
    have e1 : W9.cell? ⟨E, 1, none⟩ = some (.string raw) := hc 1 _ rfl
    have e2 : W9.cell? ⟨E, 2, none⟩ = some (.string (S ++ ⟨#[48]⟩)) := hc 2 _ rfl
    have e3 : W9.cell? ⟨E, 3, none⟩ = some (.string (⟨#[48]⟩ ++ S)) := hc 3 _ rfl
    have s2 : (S ++ ⟨#[48]⟩ : ByteArray).size ≤ 9223372036854775807 := by rw [ByteArray.size_append]; show S.size + 1 ≤ _; omega
    have s3 : (⟨#[48]⟩ ++ S : ByteArray).size ≤ 9223372036854775807 := by rw [ByteArray.size_append]; show 1 + S.size ≤ _; omega
    have sY : Y.size ≤ 9223372036854775807 := by omega
    generalize (S ++ ⟨#[48]⟩ : ByteArray) = T2 at e2 s2 ⊢
    generalize (⟨#[48]⟩ ++ S : ByteArray) = T3 at e3 s3 ⊢
    clear hc
    go_loopw [76] (fun i wr => ∃ m : Nat, i = .int .i64 m ∧ m ≤ 4 ∧ Frm (fun _ => False) W9 wr) (fun i _ => 4 - (intOf i).toNat)
    case atStart => exact ⟨0, rfl, by omega, Frm.refl _ _⟩
    case round =>
      obtain ⟨m, rfl, hm, hf⟩ := hrel
      have fz := f9.trans hf
      by_cases h5 : m = 4
      · subst h5
        clear e0 e1 e2 e3
        go_wp2_with fail
        go_ret
        exact ⟨rfl, fz⟩
      · have hm2 : m = 0 ∨ m = 1 ∨ m = 2 ∨ m = 3 := by omega
        clear h5 hm
        rcases hm2 with rfl | rfl | rfl | rfl
        · have d0 := hf.cell e0 (fun h => h)
          clear e0 e1 e2 e3
          go_wp2_with fail
          refine (parse_two Y sY _ (hT.frm fz)).mono ?_
          rintro e w9 ⟨g9, u, b, rfl, h2⟩
          have fw := hf.trans g9
          have H2 := Lib.hid h2
          clear g9 h2 d0 hf fz
          go_wp2_with fail
          refine (H2.out _).mono ?_
          rintro e w10 ⟨rfl, rfl⟩
          clear H2
          cases b
          all_goals
            go_wp2_with fail
            go_roundw
            case rel => exact ⟨1, by go_num, by omega, fw⟩
            case measure => simp [intOf]
        · have d0 := hf.cell e1 (fun h => h)
          clear e0 e1 e2 e3
          go_wp2_with fail
          refine (parse_two raw hraw _ (hT.frm fz)).mono ?_
          rintro e w9 ⟨g9, u, b, rfl, h2⟩
          have fw := hf.trans g9
          have H2 := Lib.hid h2
          clear g9 h2 d0 hf fz
          go_wp2_with fail
          refine (H2.out _).mono ?_
          rintro e w10 ⟨rfl, rfl⟩
          clear H2
          cases b
          all_goals
            go_wp2_with fail
            go_roundw
            case rel => exact ⟨2, by go_num, by omega, fw⟩
            case measure => simp [intOf]
        · have d0 := hf.cell e2 (fun h => h)
          clear e0 e1 e2 e3
          go_wp2_with fail
          refine (parse_two T2 s2 _ (hT.frm fz)).mono ?_
          rintro e w9 ⟨g9, u, b, rfl, h2⟩
          have fw := hf.trans g9
          have H2 := Lib.hid h2
          clear g9 h2 d0 hf fz
          go_wp2_with fail
          refine (H2.out _).mono ?_
          rintro e w10 ⟨rfl, rfl⟩
          clear H2
          cases b
          all_goals
            go_wp2_with fail
            go_roundw
            case rel => exact ⟨3, by go_num, by omega, fw⟩
            case measure => simp [intOf]
        · have d0 := hf.cell e3 (fun h => h)
          clear e0 e1 e2 e3
          go_wp2_with fail
          refine (parse_two T3 s3 _ (hT.frm fz)).mono ?_
          rintro e w9 ⟨g9, u, b, rfl, h2⟩
          have fw := hf.trans g9
          have H2 := Lib.hid h2
          clear g9 h2 d0 hf fz
          go_wp2_with fail
          refine (H2.out _).mono ?_
          rintro e w10 ⟨rfl, rfl⟩
          clear H2
          cases b
          all_goals
            go_wp2_with fail
            go_roundw
            case rel => exact ⟨4, by go_num, by omega, fw⟩
            case measure => simp [intOf]
end Go.Proofs.YtmpfgdpicbpedaaDoor
