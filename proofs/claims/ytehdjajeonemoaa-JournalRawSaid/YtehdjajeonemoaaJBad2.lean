/-
  journal.Open, where the contents have not the right form: a record is torn; all ways. Conditions: the disk lies among the things in memory, and has power.
-/
import Derived.Test.YtehdjajeonemoaaJBad
namespace Go.Proofs.Ytehdjajeonemoaa
open Go.RowKit Go.Shelf
attribute [local go_sem] Oper.semAt_some

section
variable {w0 w : World} {L : List Thing}

theorem torn_fin {A B C D E F G K : Thing} {L1 M : List Thing} (h : Own w0 (A :: B :: C :: D :: E :: F :: G :: (L1 ++ (M ++ [K]))) w) : Own w0 (K :: L1) w := by
  refine h.reidx (fun a => if a = 0 then 7 + L1.length + M.length else 6 + a) (fun a U ha => ?_) (fun a b ha hb e => ?_)
  · cases a with
    | zero =>
      have hU : K = U := by simpa using ha
      subst hU
      rw [if_pos rfl, show 7 + L1.length + M.length = (L1.length + M.length) + 1 + 1 + 1 + 1 + 1 + 1 + 1 by omega]
      simp only [List.getElem?_cons_succ]
      rw [List.getElem?_append_right (by omega), List.getElem?_append_right (by omega), show L1.length + M.length - L1.length - M.length = 0 by omega]
      rfl
    | succ a =>
      rw [if_neg (by omega), show 6 + (a + 1) = a + 1 + 1 + 1 + 1 + 1 + 1 + 1 by omega]
      simp only [List.getElem?_cons_succ]
      have ha' : L1[a]? = some U := ha
      rw [List.getElem?_append_left (List.getElem?_eq_some_iff.1 ha').1]
      exact ha'
  · simp only [List.length_cons] at ha hb
    split at e <;> split at e <;> omega

set_option maxRecDepth 100000 in
set_option maxHeartbeats 4000000 in
theorem own_open_torn (h : Own w0 L w) {d : Nat} {D : Dk} {n : Nat} (i : Nat) (hi : L[i]? = some (diskT d D n)) (hoff : D.off = false) (hn : n ≤ 1099511627776) (e : Nat) (hm : D.now.take 8 = magicL) (hq : numI ((D.now.drop 8).take 8) = e) (q1 : 64 ≤ e) (q2 : e ≤ D.now.length) (hall : ∃ p ∈ visL ((D.now.take e).drop 64), p.2 = false) :
    Calls Try.prog 40 #[.pointer (some ⟨d, 0, none⟩)] w fun e' w' => e' = .returned (.tuple #[.pointer none, .slice none 0 0, .int .i64 11]) ∧ Own w0 (L.set i (diskT d D.sync.2 (n + 1))) w' := by
  have h1 := ((h.box #[.pointer none] 65).box #[.slice none 0 0] 64).box #[.int .i64 0] 44
  obtain ⟨D', hD'⟩ : ∃ D', D.sync = (0, D') := ⟨_, by rw [sync_free hoff]⟩
  have hnow : D'.now = D.now := by rw [sync_free hoff] at hD'; cases hD'; rfl
  have hlen : D.now.length ≤ 16777216 := by
    obtain ⟨F, hF⟩ := h.get hi
    obtain ⟨c, s, p, -, hok, -⟩ := hF
    exact hok.len
  obtain ⟨G, hG⟩ : ∃ G : ByteArray, G = ⟨D.now.toArray⟩ := ⟨_, rfl⟩
  have hGl : G.data.toList = D.now := by rw [hG]
  have hGs : G.size = D.now.length := by rw [← hGl, size_toList]
  have hG1 : G.size ≤ 16777216 := by omega
  have hrd : (⟨(D'.read 0 (G.size : Int)).toArray⟩ : ByteArray) = G := by rw [read_all D' G.size (by rw [hnow, hGs]), hnow, hG]
  have hsz : D'.now.length = G.size := by rw [hnow, hGs]
  have x1 : (G.extract 0 8).toList = D.now.take 8 := by rw [toList_data, Lib.extract_data, hGl]; simp
  have x2 : (G.extract 8 16).toList = (D.now.drop 8).take 8 := by rw [toList_data, Lib.extract_data, hGl]
  have x3 : (G.extract 8 16).data.toList = (D.now.drop 8).take 8 := by rw [Lib.extract_data, hGl]
  have x4 : (G.extract 64 e).data.toList = (D.now.take e).drop 64 := by rw [Lib.extract_data, List.drop_take, hGl]
  rw [← x1] at hm
  rw [← x3] at hq
  rw [← hGs] at q2
  rw [← x4] at hall
  have g1 : 64 ≤ G.size := by omega
  clear x1 x2 x3 x4
  have Hm0 := Lib.hid hm
  have Hq := Lib.hid hq
  have Hall := Lib.hid hall
  clear hm hq hall
  rw [hD']
  have HD := Lib.hid hD'
  have HGl := Lib.hid hGl
  have Hrd := Lib.hid hrd
  have Hsz := Lib.hid hsz
  have Hi := Lib.hid hi
  clear hD' hnow hlen hG hGl hGs hrd hsz hi hoff
  rw [List.append_assoc, List.append_assoc] at h1
  have h2 := Own.swap _ _ h1
  clear h1
  refine callsIn_wide.1 (callsIn_of_wp_marks (n := 5) Try.func40 rfl trivial (wpIn_wide.2 ?_) rfl)
  simp only [Try.ntmps40, List.size_toArray, List.length_cons, List.length_nil, Nat.reduceAdd, Nat.reduceSub, Array.replicate_succ, Array.replicate_zero, List.push_toArray, List.append_toArray, List.nil_append, List.cons_append]
  go_wp2_with fail
  obtain ⟨r1, hr1⟩ : ∃ b, b = w.heap.size := ⟨_, rfl⟩
  obtain ⟨r2, hr2⟩ : ∃ b, b = w.heap.size + 1 := ⟨_, rfl⟩
  obtain ⟨r3, hr3⟩ : ∃ b, b = w.heap.size + 1 + 1 := ⟨_, rfl⟩
  obtain ⟨W1, hW1⟩ : ∃ W, W = (((w.alloc (.cells #[.pointer none] 65)).alloc (.cells #[.slice none 0 0] 64)).alloc (.cells #[.int .i64 0] 44)) := ⟨_, rfl⟩
  simp only [World.size_alloc] at h2
  rw [← hW1, ← hr3, ← hr2, ← hr1] at h2
  rw [← hW1, ← hr3, ← hr2, ← hr1]
  clear hW1 hr1 hr2 hr3
  refine (own_sync_eq (L' := [cellT r1 #[.pointer none] 65, cellT r2 #[.slice none 0 0] 64, cellT r3 #[.int .i64 0] 44] ++ L.set i (diskT d D' (n + 1))) h2 (i + 3) Hi.out (by omega) HD.out rfl).mono ?_
  rintro e2 w2 ⟨rfl, h3⟩
  have hil : i < L.length := (List.getElem?_eq_some_iff.1 Hi.out).1
  have hi1 : (L.set i (diskT d D' (n + 1)))[i]? = some (diskT d D' (n + 1)) := List.getElem?_set_self hil
  have Hi1 := Lib.hid hi1
  clear hi1 h2
  have h4 := (h3.box #[.pointer (some ⟨d, 0, none⟩), .int .i64 64, .int .i64 0, .int .i64 0, .bool false] 95).box #[.pointer (some ⟨w2.heap.size, 0, none⟩)] 65
  go_wp2_with fail
  obtain ⟨j, hj⟩ : ∃ b, b = w2.heap.size := ⟨_, rfl⟩
  obtain ⟨jb, hjb⟩ : ∃ b, b = w2.heap.size + 1 := ⟨_, rfl⟩
  obtain ⟨W3, hW3⟩ : ∃ W, W = ((w2.alloc (.cells #[.pointer (some ⟨d, 0, none⟩), .int .i64 64, .int .i64 0, .int .i64 0, .bool false] 95)).alloc (.cells #[.pointer (some ⟨w2.heap.size, 0, none⟩)] 65)) := ⟨_, rfl⟩
  simp only [World.size_alloc] at h4
  rw [← hW3, ← hjb, ← hj] at h4
  rw [← hW3, ← hjb, ← hj]
  have h5 : Own w0 ([cellT jb #[.pointer (some ⟨j, 0, none⟩)] 65, jT j d ⟨64, 0, 0, false⟩, cellT r1 #[.pointer none] 65, cellT r2 #[.slice none 0 0] 64, cellT r3 #[.int .i64 0] 44] ++ L.set i (diskT d D' (n + 1))) W3 := Own.flip h4
  clear h3 h4 hW3 hj hjb
  obtain ⟨L1, hL1⟩ : ∃ L1, L1 = L.set i (diskT d D' (n + 1)) := ⟨_, rfl⟩
  rw [← hL1] at h5 Hi1
  have HL1 := Lib.hid hL1
  clear hL1
  refine (own_size h5 (i + 5) Hi1.out).mono ?_
  rintro e3 w3 ⟨rfl, rfl⟩
  rw [Hsz.out]
  go_wp2_with fail
  refine (own_read_eq h5 (i + 5) Hi1.out 0 _ (by omega) Hrd.out).mono ?_
  rintro e4 w4 ⟨rfl, h6⟩
  clear h5
  obtain ⟨cj, cjf⟩ := h6.cell1 (x := jb) (v := .pointer (some ⟨j, 0, none⟩)) (t := 65) 0 rfl
  obtain ⟨c1, c1f⟩ := h6.cell1 (x := r1) (v := .pointer none) (t := 65) 2 rfl
  obtain ⟨c2, c2f⟩ := h6.cell1 (x := r2) (v := .slice none 0 0) (t := 64) 3 rfl
  obtain ⟨c3, c3f⟩ := h6.cell1 (x := r3) (v := .int .i64 0) (t := 44) 4 rfl
  have n12 := h6.ne 2 3 rfl rfl (by decide)
  have n21 := n12.symm
  have n13 := h6.ne 2 4 rfl rfl (by decide)
  have n31 := n13.symm
  have n23 := h6.ne 3 4 rfl rfl (by decide)
  have n32 := n23.symm
  have m1 := h6.ne 2 0 rfl rfl (by decide)
  have m2 := h6.ne 3 0 rfl rfl (by decide)
  have t1 : (!G.toList.isEmpty) = true := str_ne (by omega)
  have t2 : G.toList.isEmpty = false := by rw [← Bool.not_eq_true', t1]
  go_wp2_with fail
  · have hA : (G.extract 0 8).toList = blankL := by assumption
    have hm := Hm0.out
    rw [hA] at hm
    exact absurd hm (by decide)
  · have hA : (G.extract 0 8).toList = blankL := by assumption
    have hm := Hm0.out
    rw [hA] at hm
    exact absurd hm (by decide)
  refine (number_any _ _ (by rw [ByteArray.size_extract]; omega)).mono ?_
  rintro e5 w5 ⟨rfl, rfl⟩
  rw [Hq.out]
  have hm' : (G.extract 0 8).toList = [99, 111, 110, 99, 111, 114, 100, 49] := Hm0.out
  have u1 : decide ((e : Int) < 64) = false := by rw [decide_eq_false_iff_not]; omega
  have u2 : decide ((G.size : Int) < (e : Int)) = false := by rw [decide_eq_false_iff_not]; omega
  have u3 : ((G.extract 0 8).toList != [99, 111, 110, 99, 111, 114, 100, 49]) = false := by rw [hm']; rfl
  have Hm := Lib.hid hm'
  clear hm'
  have hm2 := Hm.out
  go_upto_region 16 with fail
  clear hm2 u1 u2 u3
  have h7 := h6.box #[.slice none 0 0] 64
  go_wp2_with fail
  obtain ⟨rb, hrb⟩ : ∃ b, b = w4.heap.size := ⟨_, rfl⟩
  obtain ⟨W5, hW5⟩ : ∃ W, W = w4.alloc (.cells #[.slice none 0 0] 64) := ⟨_, rfl⟩
  rw [← hrb, ← hW5] at h7
  rw [← hrb, ← hW5]
  clear hrb hW5
  refine (jread_any _ W5).mono ?_
  rintro e6 w6 ⟨rfl, rfl⟩
  obtain ⟨c, hc⟩ : ∃ c, c = W5.heap.size := ⟨_, rfl⟩
  have h8 := (Own.swap _ _ h7).box #[.string (G.extract 64 e)] 9
  obtain ⟨W6, hW6⟩ : ∃ W, W = W5.alloc (.cells #[.string (G.extract 64 e)] 9) := ⟨_, rfl⟩
  rw [← hc, ← hW6] at h8
  rw [← hc, ← hW6]
  clear hc hW6 h7
  go_wp2_with fail
  have hSs : (G.extract 64 e).size ≤ 16777216 := by rw [ByteArray.size_extract]; omega
  refine wpIn_wide.1 (wpIn_range_own (F := Fence.wide) (n := 5) rfl (by decide) (gf := 65) (lb := #[.pointer (some ⟨c, 0, none⟩)]) rfl trivial (enters_of Try.func65 (by kernel_rfl) rfl)
    (read_iter 4 c (by decide) (G.extract 64 e) (by omega)) (fun _ => rfl) w0
    (fun pre X => (∀ p ∈ pre, p.2 = true) ∧ ∃ v, X = [cellT rb #[v] 64, strsT v (pre.map Prod.fst), cellT jb #[.pointer (some ⟨j, 0, none⟩)] 65, jT j d ⟨64, pre.length, sumL (pre.map Prod.fst), false⟩, cellT r1 #[.pointer none] 65, cellT r2 #[.slice none 0 0] 64, cellT r3 #[.int .i64 0] 44] ++ L1)
    (fun c _ X => c = .ret ∧ ∃ v l J, X = [cellT rb #[v] 64, strsT v l, cellT jb #[.pointer (some ⟨j, 0, none⟩)] 65, jT j d J, cellT r1 #[.pointer none] 65, cellT r2 #[.slice none 0 0] 64, cellT r3 #[.int .i64 11] 44] ++ L1)
    ([cellT rb #[.slice none 0 0] 64, strsT (.slice none 0 0) [], cellT jb #[.pointer (some ⟨j, 0, none⟩)] 65, jT j d ⟨64, 0, 0, false⟩, cellT r1 #[.pointer none] 65, cellT r2 #[.slice none 0 0] 64, cellT r3 #[.int .i64 0] 44] ++ L1)
    ?start ⟨by simp, _, rfl⟩ ?round ?done ?stop)
  case start =>
    have h9 := own_nil h8
    exact start_fin h9
  case round =>
    rintro l pre ⟨r, ok⟩ W L' ⟨hall', v, rfl⟩ hpre
    have Hall0 := Lib.hid hall'
    clear hall'
    dsimp only [encR]
    obtain ⟨rs, hrs⟩ : ∃ rs : ByteArray, (⟨r.toArray⟩ : ByteArray) = rs := ⟨_, rfl⟩
    have hrl : rs.size = r.length := by rw [← hrs]; show r.toArray.size = _; simp
    have hbd : pre.length + 1 + (sumL (pre.map Prod.fst) + r.length) ≤ 16777216 := by
      obtain ⟨t, ht⟩ := hpre
      have hb := visL_bound _ (G.extract 64 e).data.toList (Nat.le_refl _)
      rw [← ht, size_toList] at hb
      simp only [List.length_append, List.map_append, sumL_append, List.map_cons, List.map_nil, sumL_one, List.length_cons, List.length_nil] at hb
      omega
    rw [hrs]
    gi_wp2
    refine ⟨trivial, ?_⟩
    intro M W2 hO
    have hO2 : Own w0 (cellT rb #[v] 64 :: strsT v (pre.map Prod.fst) :: cellT jb #[.pointer (some ⟨j, 0, none⟩)] 65 :: jT j d ⟨64, pre.length, sumL (pre.map Prod.fst), false⟩ :: cellT r1 #[.pointer none] 65 :: cellT r2 #[.slice none 0 0] 64 :: cellT r3 #[.int .i64 0] 44 :: (L1 ++ M)) W2 := hO
    obtain ⟨k0, k0f⟩ := hO2.cell1 (x := rb) (v := v) (t := 64) 0 rfl
    obtain ⟨kj, kjf⟩ := hO2.cell1 (x := jb) (v := .pointer (some ⟨j, 0, none⟩)) (t := 65) 2 rfl
    obtain ⟨k1, k1f⟩ := hO2.cell1 (x := r1) (v := .pointer none) (t := 65) 4 rfl
    obtain ⟨k2, k2f⟩ := hO2.cell1 (x := r2) (v := .slice none 0 0) (t := 64) 5 rfl
    obtain ⟨k3, k3f⟩ := hO2.cell1 (x := r3) (v := .int .i64 0) (t := 44) 6 rfl
    cases ok
    · gi_wp2
      refine ⟨[cellT rb #[v] 64, strsT v (pre.map Prod.fst), cellT jb #[.pointer (some ⟨j, 0, none⟩)] 65, jT j d ⟨64, pre.length, sumL (pre.map Prod.fst), false⟩, cellT r1 #[.pointer none] 65, cellT r2 #[.slice none 0 0] 64, cellT r3 #[.int .i64 11] 44] ++ L1, ⟨rfl, _, _, _, rfl⟩, ?_⟩
      exact ((hO2.store 4 rfl 0 (.pointer none)).store 5 rfl 0 (.slice none 0 0)).store 6 rfl 0 (.int .i64 11)
    · have hO3 := hO2.alloc (.cells #[.string rs] 9)
      obtain ⟨hrow, hturn⟩ := hO3.strs 1 rfl
      obtain ⟨i0, hi, hz0, hz1, hz2⟩ := info_parts Try.info9
      have hpl : (pre.map Prod.fst).length = pre.length := List.length_map _
      have hb1 : ((pre.map Prod.fst).length + 1) * 16 ≤ 140737488355328 := by omega
      have hb2 : (pre.map Prod.fst).length + 1 ≤ maxLen := by unfold maxLen; omega
      have hnews := new_cells W2 #[.string rs] 9 W2.heap.size rfl
      have hfin : ∀ p ∈ pre ++ [(r, true)], p.2 = true := by
        intro p hp
        rcases List.mem_append.1 hp with hp | hp
        · exact Hall0.out p hp
        · rw [List.mem_singleton.1 hp]
      have Hfin := Lib.hid hfin
      clear hfin
      have Hturn := Lib.hid hturn
      have Hpl := Lib.hid hpl
      have Hrs := Lib.hid hrs
      have Hrl := Lib.hid hrl
      have Hnews := Lib.hid hnews
      have Hz := Lib.hid (And.intro hi (And.intro hz0 (And.intro hz1 hz2)))
      have Hb := Lib.hid (And.intro hb1 hb2)
      have Hrow := Lib.hid hrow
      clear hturn hpl hrs hrl hnews hi hz0 hz1 hz2 hb1 hb2 hrow
      have nrj := hO2.ne 0 2 rfl rfl (by decide)
      have njr := nrj.symm
      have nrJ := hO2.ne (x := rb) (y := j) (cs := #[v]) (ds := #[.pointer (some ⟨d, 0, none⟩), .int .i64 64, .int .i64 pre.length, .int .i64 (sumL (pre.map Prod.fst)), .bool false]) (t := 64) (u := 95) 0 3 rfl rfl (by decide)
      have nJr := nrJ.symm
      have njJ := hO2.ne (x := jb) (y := j) (cs := #[.pointer (some ⟨j, 0, none⟩)]) (ds := #[.pointer (some ⟨d, 0, none⟩), .int .i64 64, .int .i64 pre.length, .int .i64 (sumL (pre.map Prod.fst)), .bool false]) (t := 65) (u := 95) 2 3 rfl rfl (by decide)
      have nJj := njJ.symm
      have hrs2 : rs.size ≤ 16777216 := by rw [Hrl.out]; omega
      have hsm : sumL (pre.map Prod.fst) ≤ 16777216 := by omega
      have hpm : pre.length ≤ 16777216 := by omega
      clear hO3 k1 k1f k2 k2f k3 k3f hbd
      gi_wp2_with (gi_at_builtin; refine wpListIn_append_one rfl (.tmp 62) (.tmp 64) 64 rfl 9 i0 (.string ⟨#[]⟩) 1 16 Try.underlying64 Hz.out.1 Hz.out.2.1 Hz.out.2.2.1 Hz.out.2.2.2 rfl (by decide) v (pre.map Prod.fst).length ((pre.map Prod.fst).map strV') rfl Hrow.out ⟨W2.heap.size, 0, none⟩ 1 [.string rs] rfl rfl Hnews.out (by simp [Value.oneCell']) Hb.out.1 Hb.out.2 ?_; intro g cap w1 hown hfr hg; have h9 := Hturn.out (.slice (some ⟨g, 0, none⟩) ((pre.map Prod.fst).length + 1) cap) (pre.map Prod.fst ++ [r]) w1 (strs_snoc hown Hrs.out) hfr (blk_new hg); obtain ⟨y0, y0f⟩ := h9.cell1 (x := rb) (v := v) (t := 64) 0 rfl; obtain ⟨yj, yjf⟩ := h9.cell1 (x := jb) (v := .pointer (some ⟨j, 0, none⟩)) (t := 65) 2 rfl; obtain ⟨-, -, z2, z3, -, -, -, z2f, z3f, -⟩ := Own.jcells h9 (j := j) (d := d) (J := ⟨64, pre.length, sumL (pre.map Prod.fst), false⟩) 3 rfl; have Hown := Lib.hid hown; have Hg := Lib.hid hg; clear hown hg hfr k0 k0f kj kjf)
      have h10 := ((h9.store 0 rfl 0 (.slice (some ⟨g, 0, none⟩) ((pre.map Prod.fst).length + 1) cap)).store 3 rfl 2 (.int .i64 ((pre.length : Int) + 1))).store 3 rfl 3 (.int .i64 ((sumL (pre.map Prod.fst) : Int) + rs.size))
      rw [Hpl.out] at h10
      have e1 : (pre ++ [(r, true)]).map Prod.fst = pre.map Prod.fst ++ [r] := by simp
      have e2 : (pre ++ [(r, true)]).length = pre.length + 1 := by simp
      have e3 : sumL (pre.map Prod.fst ++ [r]) = sumL (pre.map Prod.fst) + rs.size := by rw [sumL_append, sumL_one, Hrl.out]
      refine ⟨[cellT rb #[.slice (some ⟨g, 0, none⟩) (pre.length + 1) cap] 64, strsT (.slice (some ⟨g, 0, none⟩) (pre.length + 1) cap) ((pre ++ [(r, true)]).map Prod.fst), cellT jb #[.pointer (some ⟨j, 0, none⟩)] 65, jT j d ⟨64, (pre ++ [(r, true)]).length, sumL ((pre ++ [(r, true)]).map Prod.fst), false⟩, cellT r1 #[.pointer none] 65, cellT r2 #[.slice none 0 0] 64, cellT r3 #[.int .i64 0] 44] ++ L1, ⟨?_, _, rfl⟩, ?_⟩
      · first | exact Hfin.out | (intro a b hp; exact Hfin.out (a, b) hp) | simpa using Hfin.out
      · rw [e1, e2, e3]
        unfold jT
        rw [show (((⟨64, pre.length + 1, sumL (pre.map Prod.fst) + rs.size, false⟩ : Jn).many : Nat) : Int) = (pre.length : Int) + 1 from rfl, show (((⟨64, pre.length + 1, sumL (pre.map Prod.fst) + rs.size, false⟩ : Jn).bytes : Nat) : Int) = (sumL (pre.map Prod.fst) : Int) + rs.size from rfl]
        exact h10
  case done =>
    rintro D3 xs W L' M rfl ⟨hall', -⟩ -
    obtain ⟨p, hp, hp2⟩ := Hall.out
    rw [hall' p hp] at hp2
    cases hp2
  case stop =>
    rintro D3 c3 pre W L' M - ⟨rfl, v, l, J, rfl⟩ hO
    have hO2 : Own w0 (cellT rb #[v] 64 :: strsT v l :: cellT jb #[.pointer (some ⟨j, 0, none⟩)] 65 :: jT j d J :: cellT r1 #[.pointer none] 65 :: cellT r2 #[.slice none 0 0] 64 :: cellT r3 #[.int .i64 11] 44 :: (L1 ++ (M ++ [blockT D3 (.deferred (some []))]))) W := hO
    clear hO
    have k1 := (hO2.cell1 (x := r1) (v := .pointer none) (t := 65) 4 rfl).1
    have k2 := (hO2.cell1 (x := r2) (v := .slice none 0 0) (t := 64) 5 rfl).1
    have k3 := (hO2.cell1 (x := r3) (v := .int .i64 11) (t := 44) 6 rfl).1
    have hF := torn_fin hO2
    have hK := hF.blk 0 rfl
    gi_wp2
    refine ⟨by simp, .inl ⟨D3, _, rfl, run_takeDeferred hK, ?_⟩⟩
    refine ⟨_, open_results _ _ ⟨r1, 0, none⟩ ⟨r2, 0, none⟩ ⟨r3, 0, none⟩ _ _ _ rfl rfl rfl (cell_put hK k1) (cell_put hK k2) (cell_put hK k3), rfl, ?_⟩
    rw [← HL1.out]
    exact (hF.putBlk 0 rfl (.deferred none)).tail

/-- Open, of contents that have not the right form. -/
theorem own_open_bad (h : Own w0 L w) {d : Nat} {D : Dk} {n : Nat} (i : Nat) (hi : L[i]? = some (diskT d D n)) (hoff : D.off = false) (hn : n ≤ 1099511627776) (ho : openL D.now = none) :
    Calls Try.prog 40 #[.pointer (some ⟨d, 0, none⟩)] w fun e' w' => e' = .returned (.tuple #[.pointer none, .slice none 0 0, .int .i64 11]) ∧ Own w0 (L.set i (diskT d D.sync.2 (n + 1))) w' := by
  unfold openL at ho
  split at ho
  · cases ho
  split at ho
  · exact own_open_short h i hi hoff hn (by assumption) (by assumption)
  split at ho
  · cases ho
  split at ho
  · exact own_open_header h i hi hoff hn (by omega) (by assumption) (by assumption)
  split at ho
  · cases ho
  · rename_i h64 hb hc ha
    have hm : D.now.take 8 = magicL := Classical.byContradiction fun hm => hc (.inl hm)
    have hlo : 64 ≤ numI ((D.now.drop 8).take 8) := by omega
    have hhi : numI ((D.now.drop 8).take 8) ≤ D.now.length := by omega
    have ha2 : ¬ ∀ p ∈ visL ((D.now.take (numI ((D.now.drop 8).take 8)).toNat).drop 64), p.2 = true := by
      intro hall
      exact ha (List.all_eq_true.2 hall)
    refine own_open_torn h i hi hoff hn (numI ((D.now.drop 8).take 8)).toNat hm (by omega) (by omega) (by omega) ?_
    refine Classical.byContradiction fun hne => ha2 fun p hp => ?_
    cases hpe : p.2 with
    | true => rfl
    | false => exact absurd ⟨p, hp, hpe⟩ hne
end
end Go.Proofs.Ytehdjajeonemoaa
