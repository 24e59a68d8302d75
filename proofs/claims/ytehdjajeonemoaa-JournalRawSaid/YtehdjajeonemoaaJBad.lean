/-
  journal.Open, where the contents have not the right form. Conditions: the disk lies among the things in memory, and has power.
-/
import Derived.Test.YtehdjajeonemoaaJOpen
namespace Go.Proofs.Ytehdjajeonemoaa
open Go.RowKit Go.Shelf
attribute [local go_sem] Oper.semAt_some

section
variable {w0 w : World} {L : List Thing}

set_option maxRecDepth 100000 in
set_option maxHeartbeats 4000000 in
theorem own_open_short (h : Own w0 L w) {d : Nat} {D : Dk} {n : Nat} (i : Nat) (hi : L[i]? = some (diskT d D n)) (hoff : D.off = false) (hn : n ≤ 1099511627776) (g0 : ¬ D.now.length = 0) (g1 : D.now.length < 64) :
    Calls Try.prog 40 #[.pointer (some ⟨d, 0, none⟩)] w fun e' w' => e' = .returned (.tuple #[.pointer none, .slice none 0 0, .int .i64 11]) ∧ Own w0 (L.set i (diskT d D.sync.2 (n + 1))) w' := by
  have h1 := ((h.box #[.pointer none] 65).box #[.slice none 0 0] 64).box #[.int .i64 0] 44
  obtain ⟨D', hD'⟩ : ∃ D', D.sync = (0, D') := ⟨_, by rw [sync_free hoff]⟩
  have hnow : D'.now = D.now := by rw [sync_free hoff] at hD'; cases hD'; rfl
  have hlen : D.now.length ≤ 16777216 := by
    obtain ⟨F, hF⟩ := h.get hi
    obtain ⟨c, s, p, -, hok, -⟩ := hF
    exact hok.len
  obtain ⟨G, hG⟩ : ∃ G : ByteArray, G = ⟨D.now.toArray⟩ := ⟨_, rfl⟩
  have hGl : G.data.toList = D.now := by rw [hG]
  have hGs : G.size = D.now.length := by rw [← hGl, size_toList]
  have hG1 : G.size ≤ 16777216 := by omega
  have hrd : (⟨(D'.read 0 (G.size : Int)).toArray⟩ : ByteArray) = G := by rw [read_all D' G.size (by rw [hnow, hGs]), hnow, hG]
  have hsz : D'.now.length = G.size := by rw [hnow, hGs]
  rw [← hGs] at g0 g1
  rw [hD']
  have HD := Lib.hid hD'
  have HGl := Lib.hid hGl
  have Hrd := Lib.hid hrd
  have Hsz := Lib.hid hsz
  have Hi := Lib.hid hi
  clear hD' hnow hlen hG hGl hGs hrd hsz hi hoff
  rw [List.append_assoc, List.append_assoc] at h1
  have h2 := Own.swap _ _ h1
  clear h1
  refine callsIn_wide.1 (callsIn_of_wp_marks (n := 5) Try.func40 rfl trivial (wpIn_wide.2 ?_) rfl)
  simp only [Try.ntmps40, List.size_toArray, List.length_cons, List.length_nil, Nat.reduceAdd, Nat.reduceSub, Array.replicate_succ, Array.replicate_zero, List.push_toArray, List.append_toArray, List.nil_append, List.cons_append]
  go_wp2_with fail
  obtain ⟨r1, hr1⟩ : ∃ b, b = w.heap.size := ⟨_, rfl⟩
  obtain ⟨r2, hr2⟩ : ∃ b, b = w.heap.size + 1 := ⟨_, rfl⟩
  obtain ⟨r3, hr3⟩ : ∃ b, b = w.heap.size + 1 + 1 := ⟨_, rfl⟩
  obtain ⟨W1, hW1⟩ : ∃ W, W = (((w.alloc (.cells #[.pointer none] 65)).alloc (.cells #[.slice none 0 0] 64)).alloc (.cells #[.int .i64 0] 44)) := ⟨_, rfl⟩
  simp only [World.size_alloc] at h2
  rw [← hW1, ← hr3, ← hr2, ← hr1] at h2
  rw [← hW1, ← hr3, ← hr2, ← hr1]
  clear hW1 hr1 hr2 hr3
  refine (own_sync_eq (L' := [cellT r1 #[.pointer none] 65, cellT r2 #[.slice none 0 0] 64, cellT r3 #[.int .i64 0] 44] ++ L.set i (diskT d D' (n + 1))) h2 (i + 3) Hi.out (by omega) HD.out rfl).mono ?_
  rintro e2 w2 ⟨rfl, h3⟩
  have hil : i < L.length := (List.getElem?_eq_some_iff.1 Hi.out).1
  have hi1 : (L.set i (diskT d D' (n + 1)))[i]? = some (diskT d D' (n + 1)) := List.getElem?_set_self hil
  have Hi1 := Lib.hid hi1
  clear hi1 h2
  have h4 := (h3.box #[.pointer (some ⟨d, 0, none⟩), .int .i64 64, .int .i64 0, .int .i64 0, .bool false] 95).box #[.pointer (some ⟨w2.heap.size, 0, none⟩)] 65
  go_wp2_with fail
  obtain ⟨j, hj⟩ : ∃ b, b = w2.heap.size := ⟨_, rfl⟩
  obtain ⟨jb, hjb⟩ : ∃ b, b = w2.heap.size + 1 := ⟨_, rfl⟩
  obtain ⟨W3, hW3⟩ : ∃ W, W = ((w2.alloc (.cells #[.pointer (some ⟨d, 0, none⟩), .int .i64 64, .int .i64 0, .int .i64 0, .bool false] 95)).alloc (.cells #[.pointer (some ⟨w2.heap.size, 0, none⟩)] 65)) := ⟨_, rfl⟩
  simp only [World.size_alloc] at h4
  rw [← hW3, ← hjb, ← hj] at h4
  rw [← hW3, ← hjb, ← hj]
  have h5 : Own w0 ([cellT jb #[.pointer (some ⟨j, 0, none⟩)] 65, jT j d ⟨64, 0, 0, false⟩, cellT r1 #[.pointer none] 65, cellT r2 #[.slice none 0 0] 64, cellT r3 #[.int .i64 0] 44] ++ L.set i (diskT d D' (n + 1))) W3 := Own.flip h4
  clear h3 h4 hW3 hj hjb
  obtain ⟨L1, hL1⟩ : ∃ L1, L1 = L.set i (diskT d D' (n + 1)) := ⟨_, rfl⟩
  rw [← hL1] at h5 Hi1
  have HL1 := Lib.hid hL1
  clear hL1
  refine (own_size h5 (i + 5) Hi1.out).mono ?_
  rintro e3 w3 ⟨rfl, rfl⟩
  rw [Hsz.out]
  go_wp2_with fail
  refine (own_read_eq h5 (i + 5) Hi1.out 0 _ (by omega) Hrd.out).mono ?_
  rintro e4 w4 ⟨rfl, h6⟩
  clear h5
  obtain ⟨cj, cjf⟩ := h6.cell1 (x := jb) (v := .pointer (some ⟨j, 0, none⟩)) (t := 65) 0 rfl
  obtain ⟨c1, c1f⟩ := h6.cell1 (x := r1) (v := .pointer none) (t := 65) 2 rfl
  obtain ⟨c2, c2f⟩ := h6.cell1 (x := r2) (v := .slice none 0 0) (t := 64) 3 rfl
  obtain ⟨c3, c3f⟩ := h6.cell1 (x := r3) (v := .int .i64 0) (t := 44) 4 rfl
  have n12 := h6.ne 2 3 rfl rfl (by decide)
  have n21 := n12.symm
  have n13 := h6.ne 2 4 rfl rfl (by decide)
  have n31 := n13.symm
  have n23 := h6.ne 3 4 rfl rfl (by decide)
  have n32 := n23.symm
  have m1 := h6.ne 2 0 rfl rfl (by decide)
  have m2 := h6.ne 3 0 rfl rfl (by decide)
  have t1 : (!G.toList.isEmpty) = true := str_ne g0
  have t2 : G.toList.isEmpty = false := by rw [← Bool.not_eq_true', t1]
  clear g0
  go_wp2_with fail
  obtain ⟨f1, f2, f3, f4⟩ := open_fin h6 (.pointer none) (.slice none 0 0) (.int .i64 11)
  refine ⟨_, open_results _ _ ⟨r1, 0, none⟩ ⟨r2, 0, none⟩ ⟨r3, 0, none⟩ _ _ _ rfl rfl rfl f1 f2 f3, rfl, ?_⟩
  rw [← HL1.out]
  exact f4.tail
set_option maxRecDepth 100000 in
set_option maxHeartbeats 4000000 in
theorem own_open_header (h : Own w0 L w) {d : Nat} {D : Dk} {n : Nat} (i : Nat) (hi : L[i]? = some (diskT d D n)) (hoff : D.off = false) (hn : n ≤ 1099511627776) (g1 : 64 ≤ D.now.length) (hb : ¬ (D.now.take 8 = blankL ∧ (D.now.drop 8).take 8 = blankL)) (hw : D.now.take 8 ≠ magicL ∨ numI ((D.now.drop 8).take 8) < 64 ∨ numI ((D.now.drop 8).take 8) > D.now.length) :
    Calls Try.prog 40 #[.pointer (some ⟨d, 0, none⟩)] w fun e' w' => e' = .returned (.tuple #[.pointer none, .slice none 0 0, .int .i64 11]) ∧ Own w0 (L.set i (diskT d D.sync.2 (n + 1))) w' := by
  have h1 := ((h.box #[.pointer none] 65).box #[.slice none 0 0] 64).box #[.int .i64 0] 44
  obtain ⟨D', hD'⟩ : ∃ D', D.sync = (0, D') := ⟨_, by rw [sync_free hoff]⟩
  have hnow : D'.now = D.now := by rw [sync_free hoff] at hD'; cases hD'; rfl
  have hlen : D.now.length ≤ 16777216 := by
    obtain ⟨F, hF⟩ := h.get hi
    obtain ⟨c, s, p, -, hok, -⟩ := hF
    exact hok.len
  obtain ⟨G, hG⟩ : ∃ G : ByteArray, G = ⟨D.now.toArray⟩ := ⟨_, rfl⟩
  have hGl : G.data.toList = D.now := by rw [hG]
  have hGs : G.size = D.now.length := by rw [← hGl, size_toList]
  have hG1 : G.size ≤ 16777216 := by omega
  have hrd : (⟨(D'.read 0 (G.size : Int)).toArray⟩ : ByteArray) = G := by rw [read_all D' G.size (by rw [hnow, hGs]), hnow, hG]
  have hsz : D'.now.length = G.size := by rw [hnow, hGs]
  have x1 : (G.extract 0 8).toList = D.now.take 8 := by rw [toList_data, Lib.extract_data, hGl]; simp
  have x2 : (G.extract 8 16).toList = (D.now.drop 8).take 8 := by rw [toList_data, Lib.extract_data, hGl]
  have x3 : (G.extract 8 16).data.toList = (D.now.drop 8).take 8 := by rw [Lib.extract_data, hGl]
  rw [← x1, ← x2] at hb
  rw [← x1, ← x3, ← hGs] at hw
  rw [← hGs] at g1
  clear x1 x2 x3
  have Hb := Lib.hid hb
  have Hw := Lib.hid hw
  clear hb hw
  rw [hD']
  have HD := Lib.hid hD'
  have HGl := Lib.hid hGl
  have Hrd := Lib.hid hrd
  have Hsz := Lib.hid hsz
  have Hi := Lib.hid hi
  clear hD' hnow hlen hG hGl hGs hrd hsz hi hoff
  rw [List.append_assoc, List.append_assoc] at h1
  have h2 := Own.swap _ _ h1
  clear h1
  refine callsIn_wide.1 (callsIn_of_wp_marks (n := 5) Try.func40 rfl trivial (wpIn_wide.2 ?_) rfl)
  simp only [Try.ntmps40, List.size_toArray, List.length_cons, List.length_nil, Nat.reduceAdd, Nat.reduceSub, Array.replicate_succ, Array.replicate_zero, List.push_toArray, List.append_toArray, List.nil_append, List.cons_append]
  go_wp2_with fail
  obtain ⟨r1, hr1⟩ : ∃ b, b = w.heap.size := ⟨_, rfl⟩
  obtain ⟨r2, hr2⟩ : ∃ b, b = w.heap.size + 1 := ⟨_, rfl⟩
  obtain ⟨r3, hr3⟩ : ∃ b, b = w.heap.size + 1 + 1 := ⟨_, rfl⟩
  obtain ⟨W1, hW1⟩ : ∃ W, W = (((w.alloc (.cells #[.pointer none] 65)).alloc (.cells #[.slice none 0 0] 64)).alloc (.cells #[.int .i64 0] 44)) := ⟨_, rfl⟩
  simp only [World.size_alloc] at h2
  rw [← hW1, ← hr3, ← hr2, ← hr1] at h2
  rw [← hW1, ← hr3, ← hr2, ← hr1]
  clear hW1 hr1 hr2 hr3
  refine (own_sync_eq (L' := [cellT r1 #[.pointer none] 65, cellT r2 #[.slice none 0 0] 64, cellT r3 #[.int .i64 0] 44] ++ L.set i (diskT d D' (n + 1))) h2 (i + 3) Hi.out (by omega) HD.out rfl).mono ?_
  rintro e2 w2 ⟨rfl, h3⟩
  have hil : i < L.length := (List.getElem?_eq_some_iff.1 Hi.out).1
  have hi1 : (L.set i (diskT d D' (n + 1)))[i]? = some (diskT d D' (n + 1)) := List.getElem?_set_self hil
  have Hi1 := Lib.hid hi1
  clear hi1 h2
  have h4 := (h3.box #[.pointer (some ⟨d, 0, none⟩), .int .i64 64, .int .i64 0, .int .i64 0, .bool false] 95).box #[.pointer (some ⟨w2.heap.size, 0, none⟩)] 65
  go_wp2_with fail
  obtain ⟨j, hj⟩ : ∃ b, b = w2.heap.size := ⟨_, rfl⟩
  obtain ⟨jb, hjb⟩ : ∃ b, b = w2.heap.size + 1 := ⟨_, rfl⟩
  obtain ⟨W3, hW3⟩ : ∃ W, W = ((w2.alloc (.cells #[.pointer (some ⟨d, 0, none⟩), .int .i64 64, .int .i64 0, .int .i64 0, .bool false] 95)).alloc (.cells #[.pointer (some ⟨w2.heap.size, 0, none⟩)] 65)) := ⟨_, rfl⟩
  simp only [World.size_alloc] at h4
  rw [← hW3, ← hjb, ← hj] at h4
  rw [← hW3, ← hjb, ← hj]
  have h5 : Own w0 ([cellT jb #[.pointer (some ⟨j, 0, none⟩)] 65, jT j d ⟨64, 0, 0, false⟩, cellT r1 #[.pointer none] 65, cellT r2 #[.slice none 0 0] 64, cellT r3 #[.int .i64 0] 44] ++ L.set i (diskT d D' (n + 1))) W3 := Own.flip h4
  clear h3 h4 hW3 hj hjb
  obtain ⟨L1, hL1⟩ : ∃ L1, L1 = L.set i (diskT d D' (n + 1)) := ⟨_, rfl⟩
  rw [← hL1] at h5 Hi1
  have HL1 := Lib.hid hL1
  clear hL1
  refine (own_size h5 (i + 5) Hi1.out).mono ?_
  rintro e3 w3 ⟨rfl, rfl⟩
  rw [Hsz.out]
  go_wp2_with fail
  refine (own_read_eq h5 (i + 5) Hi1.out 0 _ (by omega) Hrd.out).mono ?_
  rintro e4 w4 ⟨rfl, h6⟩
  clear h5
  obtain ⟨cj, cjf⟩ := h6.cell1 (x := jb) (v := .pointer (some ⟨j, 0, none⟩)) (t := 65) 0 rfl
  obtain ⟨c1, c1f⟩ := h6.cell1 (x := r1) (v := .pointer none) (t := 65) 2 rfl
  obtain ⟨c2, c2f⟩ := h6.cell1 (x := r2) (v := .slice none 0 0) (t := 64) 3 rfl
  obtain ⟨c3, c3f⟩ := h6.cell1 (x := r3) (v := .int .i64 0) (t := 44) 4 rfl
  have n12 := h6.ne 2 3 rfl rfl (by decide)
  have n21 := n12.symm
  have n13 := h6.ne 2 4 rfl rfl (by decide)
  have n31 := n13.symm
  have n23 := h6.ne 3 4 rfl rfl (by decide)
  have n32 := n23.symm
  have m1 := h6.ne 2 0 rfl rfl (by decide)
  have m2 := h6.ne 3 0 rfl rfl (by decide)
  have t1 : (!G.toList.isEmpty) = true := str_ne (by omega)
  have t2 : G.toList.isEmpty = false := by rw [← Bool.not_eq_true', t1]
  go_wp2_with fail
  · have hA : (G.extract 0 8).toList = blankL := by assumption
    have hB : ((G.extract 8 16).toList == blankL) = true := by assumption
    exact absurd ⟨hA, beq_iff_eq.1 hB⟩ Hb.out
  all_goals
    refine (number_any _ _ (by rw [ByteArray.size_extract]; omega)).mono ?_
    rintro e5 w5 ⟨rfl, rfl⟩
    obtain ⟨qn, hqn⟩ : ∃ q, q = numI (G.extract 8 16).data.toList := ⟨_, rfl⟩
    have hw := Hw.out
    rw [← hqn] at hw ⊢
    clear hqn Hw
    have Hw := Lib.hid hw
    clear hw
    go_wp2_with fail
  all_goals
    first
      | (exfalso
         rcases Hw.out with hh | hh | hh
         · exact hh (by assumption)
         · omega
         · omega)
      | (obtain ⟨f1, f2, f3, f4⟩ := open_fin h6 (.pointer none) (.slice none 0 0) (.int .i64 11)
         refine ⟨_, open_results _ _ ⟨r1, 0, none⟩ ⟨r2, 0, none⟩ ⟨r3, 0, none⟩ _ _ _ rfl rfl rfl f1 f2 f3, rfl, ?_⟩
         rw [← HL1.out]
         exact f4.tail)
end
end Go.Proofs.Ytehdjajeonemoaa
