/-
  journal.Open: what its code does. Conditions: the disk lies among the things in memory, and has power.
-/
import Derived.Test.YtehdjajeonemoaaJRead
import Derived.Test.YtehdjajeonemoaaJApp
import Derived.Test.YtehdjajeonemoaaPlain30
namespace Go.Proofs.Ytehdjajeonemoaa
open Go.RowKit Go.Shelf
attribute [local go_sem] Oper.semAt_some

/-- A list of strings. -/
def strV' (r : List UInt8) : Value := .string ⟨r.toArray⟩
def strsT (v : Value) (l : List (List UInt8)) : Thing where
  P w F := w.ownsRow 0 9 1 v l.length (l.map strV') ∧ F = Blk v
  stable w w' F G h hf hF := ⟨ownsRow_frm h.1 hf (fun k hk => hF k (by rw [h.2]; exact hk)), h.2⟩
  lt w F k h hk := by
    rw [h.2] at hk
    exact (World.ownsRow.lt h.1 k hk).2

theorem str_nil {s : ByteArray} (h : s.size = 0) : (!s.toList.isEmpty) = false := by
  rw [toList_data]
  have : s.data.toList = [] := List.eq_nil_of_length_eq_zero (by rw [Array.length_toList]; exact h)
  rw [this]
  rfl

theorem Try.info9 : (Try.prog.info? 9).map (fun i => (i.zero, i.size, i.bytes)) = some (some (.string ⟨#[]⟩), 1, 16) := by kernel_rfl

section
variable {w0 w : World} {L : List Thing}

theorem Own.ne (h : Own w0 L w) {x y : Nat} {cs ds : Array Value} {t u : TypeId} (i j : Nat) (hi : L[i]? = some (cellT x cs t)) (hj : L[j]? = some (cellT y ds u)) (hij : i ≠ j) : x ≠ y := by
  obtain ⟨F, h1, h2, h3⟩ := h.fp
  obtain ⟨-, e1⟩ := h1 i _ hi
  obtain ⟨-, e2⟩ := h1 j _ hj
  intro e
  subst e
  exact hij (h3 i j x (List.getElem?_eq_some_iff.1 hi).1 (List.getElem?_eq_some_iff.1 hj).1 (by rw [e1]) (by rw [e2]))

/-- What is known of contents that bear records behind a header. -/
theorem open_full {G : ByteArray} {e : Nat} {R : List (List UInt8)} (h : openL G.data.toList = some (e, R)) (g64 : 64 ≤ G.size) (hb : ¬ ((G.extract 0 8).toList = blankL ∧ (G.extract 8 16).toList = blankL)) :
    (G.extract 0 8).toList = magicL ∧ numI (G.extract 8 16).data.toList = e ∧ 64 ≤ e ∧ e ≤ G.size ∧ (∀ p ∈ visL (G.extract 64 e).data.toList, p.2 = true) ∧ R = (visL (G.extract 64 e).data.toList).map Prod.fst := by
  have x1 : (G.extract 0 8).toList = G.data.toList.take 8 := by rw [toList_data, Lib.extract_data]; simp
  have x2 : (G.extract 8 16).toList = (G.data.toList.drop 8).take 8 := by rw [toList_data, Lib.extract_data]
  have x3 : (G.extract 8 16).data.toList = (G.data.toList.drop 8).take 8 := by rw [Lib.extract_data]
  rw [x1, x2] at hb
  rw [x1, x3]
  unfold openL at h
  rw [if_neg (by rw [size_toList]; omega), if_neg (by rw [size_toList]; omega), if_neg hb] at h
  split at h
  · cases h
  · rename_i hc
    rw [size_toList] at hc
    split at h
    · rename_i ha
      injection h with h
      injection h with h1 h2
      have hm : G.data.toList.take 8 = magicL := Classical.byContradiction fun hm => hc (.inl hm)
      have y1 : numI ((G.data.toList.drop 8).take 8) = e := by omega
      rw [h1] at ha h2
      have x4 : (G.extract 64 e).data.toList = (G.data.toList.take e).drop 64 := by rw [Lib.extract_data, List.drop_take]
      rw [x4]
      exact ⟨hm, y1, by omega, by omega, by simpa using ha, h2.symm⟩
    · cases h
/-- The three results are stored. -/
theorem open_fin {r1 r2 r3 : Nat} {A J : Thing} {v1 v2 v3 : Value} {M : List Thing} (h : Own w0 (A :: J :: cellT r1 #[v1] 65 :: cellT r2 #[v2] 64 :: cellT r3 #[v3] 44 :: M) w) (x y z : Value) :
    (((w.setCell ⟨r1, 0, none⟩ x).setCell ⟨r2, 0, none⟩ y).setCell ⟨r3, 0, none⟩ z).cell? ⟨r1, 0, none⟩ = some x ∧ (((w.setCell ⟨r1, 0, none⟩ x).setCell ⟨r2, 0, none⟩ y).setCell ⟨r3, 0, none⟩ z).cell? ⟨r2, 0, none⟩ = some y ∧ (((w.setCell ⟨r1, 0, none⟩ x).setCell ⟨r2, 0, none⟩ y).setCell ⟨r3, 0, none⟩ z).cell? ⟨r3, 0, none⟩ = some z ∧
      Own w0 (J :: M) (((w.setCell ⟨r1, 0, none⟩ x).setCell ⟨r2, 0, none⟩ y).setCell ⟨r3, 0, none⟩ z) := by
  have h1 : Own w0 (A :: J :: cellT r1 #[x] 65 :: cellT r2 #[v2] 64 :: cellT r3 #[v3] 44 :: M) (w.setCell ⟨r1, 0, none⟩ x) := h.store 2 rfl 0 x
  have h2 : Own w0 (A :: J :: cellT r1 #[x] 65 :: cellT r2 #[y] 64 :: cellT r3 #[v3] 44 :: M) ((w.setCell ⟨r1, 0, none⟩ x).setCell ⟨r2, 0, none⟩ y) := h1.store 3 rfl 0 y
  have h3 : Own w0 (A :: J :: cellT r1 #[x] 65 :: cellT r2 #[y] 64 :: cellT r3 #[z] 44 :: M) (((w.setCell ⟨r1, 0, none⟩ x).setCell ⟨r2, 0, none⟩ y).setCell ⟨r3, 0, none⟩ z) := h2.store 4 rfl 0 z
  refine ⟨(h3.cell1 (x := r1) (v := x) (t := 65) 2 rfl).1, (h3.cell1 (x := r2) (v := y) (t := 64) 3 rfl).1, (h3.cell1 (x := r3) (v := z) (t := 44) 4 rfl).1, ?_⟩
  refine h3.reidx (fun a => if a = 0 then 1 else a + 4) (fun a U ha => ?_) (fun a b _ _ e => ?_)
  · cases a with
    | zero => exact ha
    | succ a => exact ha
  · split at e <;> split at e <;> omega
/-- No records: a slice that is nil. -/
theorem own_nil (h : Own w0 L w) : Own w0 (L ++ [strsT (.slice none 0 0) []]) w :=
  h.add (T := strsT (.slice none 0 0) []) (F' := Blk (.slice none 0 0)) ⟨World.ownsRow_nil _ _ _ _, rfl⟩ (Frm.refl _ _) fun _ hk => absurd hk Blk.nil

theorem strs_snoc {g cap : Nat} {l : List (List UInt8)} {r : List UInt8} {rs : ByteArray} (h : w.ownsRow 0 9 1 (.slice (some ⟨g, 0, none⟩) (l.length + 1) cap) (l.length + 1) (l.map strV' ++ [.string rs])) (hr : (⟨r.toArray⟩ : ByteArray) = rs) :
    w.ownsRow 0 9 1 (.slice (some ⟨g, 0, none⟩) (l.length + 1) cap) (l ++ [r]).length ((l ++ [r]).map strV') := by
  have e1 : (l ++ [r]).length = l.length + 1 := by simp
  have e2 : (l ++ [r]).map strV' = l.map strV' ++ [.string rs] := by simp [strV', hr]
  rw [e1, e2]
  exact h
theorem strs_form {v : Value} {l : List (List UInt8)} (h : w.ownsRow 0 9 1 v l.length (l.map strV')) : ∃ ao cap, v = .slice ao l.length cap := by
  rcases h.2 with ⟨rfl, h0⟩ | ⟨g, cap, cur, rfl, _⟩
  · exact ⟨none, 0, by rw [h0]⟩
  · exact ⟨_, _, rfl⟩
theorem Own.tail {T : Thing} (h : Own w0 (T :: L) w) : Own w0 L w := h.reidx (fun a => a + 1) (fun _ _ ha => ha) (fun _ _ _ _ e => by omega)
theorem pick_fin {J A B S : Thing} {L1 M : List Thing} (h : Own w0 (J :: ((L1 ++ (M ++ [B])) ++ [A, S])) w) : Own w0 (B :: (L1 ++ [J, S])) w := by
  refine h.reidx (fun a => if a = 0 then 1 + L1.length + M.length else if a - 1 < L1.length then a else if a - 1 = L1.length then 0 else L1.length + M.length + 3) (fun a U ha => ?_) (fun a b ha hb e => ?_)
  · cases a with
    | zero =>
      simp only [if_true]
      have hU : B = U := by simpa using ha
      subst hU
      rw [show 1 + L1.length + M.length = L1.length + M.length + 1 by omega, List.getElem?_cons_succ, List.append_assoc, List.getElem?_append_right (by omega), List.append_assoc, List.getElem?_append_right (by omega)]
      rw [show L1.length + M.length - L1.length - M.length = 0 by omega]
      rfl
    | succ a =>
      rw [if_neg (by omega), Nat.add_sub_cancel]
      have ha' : (L1 ++ [J, S])[a]? = some U := ha
      by_cases h1 : a < L1.length
      · rw [if_pos h1, List.getElem?_cons_succ, List.append_assoc, List.getElem?_append_left h1]
        rw [List.getElem?_append_left h1] at ha'
        exact ha'
      · rw [if_neg h1]
        rw [List.getElem?_append_right (by omega)] at ha'
        by_cases h2 : a = L1.length
        · rw [if_pos h2]
          rw [h2, Nat.sub_self] at ha'
          exact ha'
        · rw [if_neg h2]
          have hlt := (List.getElem?_eq_some_iff.1 ha').1
          have h3 : a - L1.length = 1 := by simp at hlt; omega
          rw [h3] at ha'
          have hU : S = U := by simpa using ha'
          subst hU
          rw [show L1.length + M.length + 3 = (L1.length + M.length + 2) + 1 by omega, List.getElem?_cons_succ, List.getElem?_append_right (by simp only [List.length_append, List.length_cons, List.length_nil]; omega)]
          rw [show L1.length + M.length + 2 - (L1 ++ (M ++ [B])).length = 1 by simp only [List.length_append, List.length_cons, List.length_nil]; omega]
          rfl
  · simp only [List.length_cons, List.length_append, List.length_nil] at ha hb
    split at e <;> split at e <;> (try split at e) <;> (try split at e) <;> (try split at e) <;> (try split at e) <;> omega
theorem start_fin {A B C D E F K S : Thing} (h : Own w0 (([A] ++ ([B, C, D, E, F] ++ L)) ++ [K] ++ [S]) w) : Own w0 ([A, S, B, C, D, E, F] ++ L ++ [K]) w := by
  refine h.reidx (fun a => if a = 0 then 0 else if a = 1 then L.length + 7 else a - 1) (fun a U ha => ?_) (fun a b ha hb e => ?_)
  · match a, ha with
    | 0, ha => exact ha
    | 1, ha =>
      have hU : S = U := by simpa using ha
      subst hU
      rw [if_neg (by decide), if_pos rfl, List.getElem?_append_right (by simp)]
      simp
    | a + 2, ha =>
      rw [if_neg (by omega), if_neg (by omega), show a + 2 - 1 = a + 1 by omega]
      have hlt := (List.getElem?_eq_some_iff.1 ha).1
      simp only [List.length_append, List.length_cons, List.length_nil] at hlt
      rw [List.getElem?_append_left (by simp only [List.length_append, List.length_cons, List.length_nil]; omega)]
      exact ha
  · simp only [List.length_append, List.length_cons, List.length_nil] at ha hb
    split at e <;> split at e <;> (try split at e) <;> (try split at e) <;> omega
theorem cell_put {D3 : Nat} {ds : Option (List Deferred)} {a : Addr} {v : Value} (hK : w.heap[D3]? = some (.deferred ds)) (f : w.cell? a = some v) : (w.putObj D3 (.deferred none)).cell? a = some v :=
  cell_kept (row := some D3) f (grownBy_putObj' w D3 (.deferred none)) (fun r e => by cases e; exact ⟨_, hK, rfl⟩)
theorem blk_new {v : Value} {g n cap : Nat} (hg : Blk v g ∨ w.heap.size ≤ g) : ∀ k, Blk (.slice (some ⟨g, 0, none⟩) n cap) k → Blk v k ∨ w.heap.size ≤ k := by
  intro k hk
  obtain rfl := Blk.some.1 hk
  exact hg

/-- A list of strings is turned. -/
theorem Own.strs (h : Own w0 L w) (i : Nat) {v : Value} {l : List (List UInt8)} (hi : L[i]? = some (strsT v l)) : w.ownsRow 0 9 1 v l.length (l.map strV') ∧
    ∀ (v' : Value) (l' : List (List UInt8)) (w' : World), w'.ownsRow 0 9 1 v' l'.length (l'.map strV') → Frm (Blk v) w w' → (∀ k, Blk v' k → Blk v k ∨ w.heap.size ≤ k) → Own w0 (L.set i (strsT v' l')) w' := by
  obtain ⟨F, hT, _, ht⟩ := h.turn hi
  refine ⟨hT.1, fun v' l' w' h1 h2 h3 => ht (strsT v' l') (Blk v') w' ⟨h1, rfl⟩ (by rw [hT.2]; exact h2) (fun k hk => by rw [hT.2]; exact h3 k hk)⟩

theorem open_results (tmps : Array Value) (w : World) (a b c : Addr) (x y z : Value) (h1 : tmps[2]?.getD undef = .pointer (some a)) (h2 : tmps[3]?.getD undef = .pointer (some b)) (h3 : tmps[4]?.getD undef = .pointer (some c))
    (c1 : w.cell? a = some x) (c2 : w.cell? b = some y) (c3 : w.cell? c = some z) : (results Try.f40 tmps).run Try.prog w = .ok (.tuple #[x, y, z]) w := by
  simp [results, Try.results40, go_sem, h1, h2, h3, c1, c2, c3]

set_option maxRecDepth 100000 in
set_option maxHeartbeats 4000000 in
theorem own_open (h : Own w0 L w) {d : Nat} {D : Dk} {n : Nat} (i : Nat) (hi : L[i]? = some (diskT d D n)) (hoff : D.off = false) (hn : n ≤ 1099511627776) (e : Nat) (R : List (List UInt8)) (ho : openL D.now = some (e, R)) :
    Calls Try.prog 40 #[.pointer (some ⟨d, 0, none⟩)] w fun e' w' => ∃ j v, e' = .returned (.tuple #[.pointer (some ⟨j, 0, none⟩), v, .int .i64 0]) ∧ Own w0 (L.set i (diskT d D.sync.2 (n + 1)) ++ [jT j d ⟨e, R.length, sumL R, false⟩, strsT v R]) w' := by
  have h1 := ((h.box #[.pointer none] 65).box #[.slice none 0 0] 64).box #[.int .i64 0] 44
  obtain ⟨D', hD'⟩ : ∃ D', D.sync = (0, D') := ⟨_, by rw [sync_free hoff]⟩
  have hnow : D'.now = D.now := by rw [sync_free hoff] at hD'; cases hD'; rfl
  have hlen : D.now.length ≤ 16777216 := by
    obtain ⟨F, hF⟩ := h.get hi
    obtain ⟨c, s, p, -, hok, -⟩ := hF
    exact hok.len
  obtain ⟨G, hG⟩ : ∃ G : ByteArray, G = ⟨D.now.toArray⟩ := ⟨_, rfl⟩
  have hGl : G.data.toList = D.now := by rw [hG]
  have hGs : G.size = D.now.length := by rw [← hGl, size_toList]
  have hG1 : G.size ≤ 16777216 := by omega
  have hrd : (⟨(D'.read 0 (G.size : Int)).toArray⟩ : ByteArray) = G := by rw [read_all D' G.size (by rw [hnow, hGs]), hnow, hG]
  have hsz : D'.now.length = G.size := by rw [hnow, hGs]
  rw [← hGl] at ho
  rw [hD']
  have HD := Lib.hid hD'
  have HGl := Lib.hid hGl
  have Hrd := Lib.hid hrd
  have Hsz := Lib.hid hsz
  have Ho := Lib.hid ho
  have Hi := Lib.hid hi
  clear hD' hnow hlen hG hGl hGs hrd hsz ho hi hoff
  rw [List.append_assoc, List.append_assoc] at h1
  have h2 := Own.swap _ _ h1
  clear h1
  refine callsIn_wide.1 (callsIn_of_wp_marks (n := 5) Try.func40 rfl trivial (wpIn_wide.2 ?_) rfl)
  simp only [Try.ntmps40, List.size_toArray, List.length_cons, List.length_nil, Nat.reduceAdd, Nat.reduceSub, Array.replicate_succ, Array.replicate_zero, List.push_toArray, List.append_toArray, List.nil_append, List.cons_append]
  go_wp2_with fail
  obtain ⟨r1, hr1⟩ : ∃ b, b = w.heap.size := ⟨_, rfl⟩
  obtain ⟨r2, hr2⟩ : ∃ b, b = w.heap.size + 1 := ⟨_, rfl⟩
  obtain ⟨r3, hr3⟩ : ∃ b, b = w.heap.size + 1 + 1 := ⟨_, rfl⟩
  obtain ⟨W1, hW1⟩ : ∃ W, W = (((w.alloc (.cells #[.pointer none] 65)).alloc (.cells #[.slice none 0 0] 64)).alloc (.cells #[.int .i64 0] 44)) := ⟨_, rfl⟩
  simp only [World.size_alloc] at h2
  rw [← hW1, ← hr3, ← hr2, ← hr1] at h2
  rw [← hW1, ← hr3, ← hr2, ← hr1]
  clear hW1 hr1 hr2 hr3
  refine (own_sync_eq (L' := [cellT r1 #[.pointer none] 65, cellT r2 #[.slice none 0 0] 64, cellT r3 #[.int .i64 0] 44] ++ L.set i (diskT d D' (n + 1))) h2 (i + 3) Hi.out (by omega) HD.out rfl).mono ?_
  rintro e2 w2 ⟨rfl, h3⟩
  have hil : i < L.length := (List.getElem?_eq_some_iff.1 Hi.out).1
  have hi1 : (L.set i (diskT d D' (n + 1)))[i]? = some (diskT d D' (n + 1)) := List.getElem?_set_self hil
  have Hi1 := Lib.hid hi1
  clear hi1 h2
  have h4 := (h3.box #[.pointer (some ⟨d, 0, none⟩), .int .i64 64, .int .i64 0, .int .i64 0, .bool false] 95).box #[.pointer (some ⟨w2.heap.size, 0, none⟩)] 65
  go_wp2_with fail
  obtain ⟨j, hj⟩ : ∃ b, b = w2.heap.size := ⟨_, rfl⟩
  obtain ⟨jb, hjb⟩ : ∃ b, b = w2.heap.size + 1 := ⟨_, rfl⟩
  obtain ⟨W3, hW3⟩ : ∃ W, W = ((w2.alloc (.cells #[.pointer (some ⟨d, 0, none⟩), .int .i64 64, .int .i64 0, .int .i64 0, .bool false] 95)).alloc (.cells #[.pointer (some ⟨w2.heap.size, 0, none⟩)] 65)) := ⟨_, rfl⟩
  simp only [World.size_alloc] at h4
  rw [← hW3, ← hjb, ← hj] at h4
  rw [← hW3, ← hjb, ← hj]
  have h5 : Own w0 ([cellT jb #[.pointer (some ⟨j, 0, none⟩)] 65, jT j d ⟨64, 0, 0, false⟩, cellT r1 #[.pointer none] 65, cellT r2 #[.slice none 0 0] 64, cellT r3 #[.int .i64 0] 44] ++ L.set i (diskT d D' (n + 1))) W3 := Own.flip h4
  clear h3 h4 hW3 hj hjb
  obtain ⟨L1, hL1⟩ : ∃ L1, L1 = L.set i (diskT d D' (n + 1)) := ⟨_, rfl⟩
  rw [← hL1] at h5 Hi1
  have HL1 := Lib.hid hL1
  clear hL1
  refine (own_size h5 (i + 5) Hi1.out).mono ?_
  rintro e3 w3 ⟨rfl, rfl⟩
  rw [Hsz.out]
  go_wp2_with fail
  refine (own_read_eq h5 (i + 5) Hi1.out 0 _ (by omega) Hrd.out).mono ?_
  rintro e4 w4 ⟨rfl, h6⟩
  clear h5
  obtain ⟨cj, cjf⟩ := h6.cell1 (x := jb) (v := .pointer (some ⟨j, 0, none⟩)) (t := 65) 0 rfl
  obtain ⟨c1, c1f⟩ := h6.cell1 (x := r1) (v := .pointer none) (t := 65) 2 rfl
  obtain ⟨c2, c2f⟩ := h6.cell1 (x := r2) (v := .slice none 0 0) (t := 64) 3 rfl
  obtain ⟨c3, c3f⟩ := h6.cell1 (x := r3) (v := .int .i64 0) (t := 44) 4 rfl
  have n12 := h6.ne 2 3 rfl rfl (by decide)
  have n21 := n12.symm
  have n13 := h6.ne 2 4 rfl rfl (by decide)
  have n31 := n13.symm
  have n23 := h6.ne 3 4 rfl rfl (by decide)
  have n32 := n23.symm
  have m1 := h6.ne 2 0 rfl rfl (by decide)
  have m2 := h6.ne 3 0 rfl rfl (by decide)
  by_cases g0 : G.size = 0
  · have t1 : (!G.toList.isEmpty) = false := by rw [str_nil g0]
    have t2 : G.toList.isEmpty = true := by rw [← Bool.not_eq_false', t1]
    go_wp2_with fail
    obtain ⟨f1, f2, f3, f4⟩ := open_fin h6 (.pointer (some ⟨j, 0, none⟩)) (.slice none 0 0) (.int .i64 0)
    have f5 := own_nil (Own.swap [jT j d ⟨64, 0, 0, false⟩] L1 f4)
    rw [List.append_assoc] at f5
    have hR : e = 64 ∧ R = [] := by
      have := Ho.out
      unfold openL at this
      rw [if_pos (by rw [size_toList]; exact g0)] at this
      cases this
      exact ⟨rfl, rfl⟩
    obtain ⟨rfl, rfl⟩ := hR
    refine ⟨_, open_results _ _ ⟨r1, 0, none⟩ ⟨r2, 0, none⟩ ⟨r3, 0, none⟩ _ _ _ rfl rfl rfl f1 f2 f3, ?_⟩
    refine ⟨j, _, rfl, ?_⟩
    rw [← HL1.out]
    exact f5
  · have t1 : (!G.toList.isEmpty) = true := str_ne g0
    have t2 : G.toList.isEmpty = false := by rw [← Bool.not_eq_true', t1]
    have g64 : 64 ≤ G.size := by
      have := Ho.out
      unfold openL at this
      rw [if_neg (by rw [size_toList]; exact g0), size_toList] at this
      split at this
      · cases this
      · omega
    go_wp2_with fail
    · have hA : (G.extract 0 8).toList = blankL := by assumption
      have hB : ((G.extract 8 16).toList == blankL) = true := by assumption
      have hR : e = 64 ∧ R = [] := by
        have := Ho.out
        unfold openL at this
        rw [if_neg (by rw [size_toList]; omega), if_neg (by rw [size_toList]; omega), if_pos ⟨by rw [← hA, toList_data, Lib.extract_data]; simp, by rw [← beq_iff_eq.1 hB, toList_data, Lib.extract_data]⟩] at this
        cases this
        exact ⟨rfl, rfl⟩
      obtain ⟨f1, f2, f3, f4⟩ := open_fin h6 (.pointer (some ⟨j, 0, none⟩)) (.slice none 0 0) (.int .i64 0)
      have f5 := own_nil (Own.swap [jT j d ⟨64, 0, 0, false⟩] L1 f4)
      rw [List.append_assoc] at f5
      obtain ⟨rfl, rfl⟩ := hR
      refine ⟨_, open_results _ _ ⟨r1, 0, none⟩ ⟨r2, 0, none⟩ ⟨r3, 0, none⟩ _ _ _ rfl rfl rfl f1 f2 f3, ?_⟩
      refine ⟨j, _, rfl, ?_⟩
      rw [← HL1.out]
      exact f5
    · have hA : (G.extract 0 8).toList = blankL := by assumption
      have hB : ((G.extract 8 16).toList == blankL) = false := by assumption
      exfalso
      have hm := (open_full Ho.out g64 (fun hh => by rw [hh.2] at hB; exact absurd hB (by decide))).1
      rw [hA] at hm
      exact absurd hm (by decide)
    · have hnb : ¬ ((G.extract 0 8).toList = blankL ∧ (G.extract 8 16).toList = blankL) := fun hh => absurd hh.1 (by assumption)
      obtain ⟨hm, hq, q1, q2, hall, hR⟩ := open_full Ho.out g64 hnb
      have Hq := Lib.hid hq
      have Hall := Lib.hid hall
      have HR := Lib.hid hR
      clear hq hall hR hnb Ho
      refine (number_any _ _ (by rw [ByteArray.size_extract]; omega)).mono ?_
      rintro e5 w5 ⟨rfl, rfl⟩
      rw [Hq.out]
      have hm' : (G.extract 0 8).toList = [99, 111, 110, 99, 111, 114, 100, 49] := hm
      have u1 : decide ((e : Int) < 64) = false := by rw [decide_eq_false_iff_not]; omega
      have u2 : decide ((G.size : Int) < (e : Int)) = false := by rw [decide_eq_false_iff_not]; omega
      have u3 : ((G.extract 0 8).toList != [99, 111, 110, 99, 111, 114, 100, 49]) = false := by rw [hm']; rfl
      have Hm := Lib.hid hm'
      clear hm hm'
      have hm2 := Hm.out
      go_upto_region 16 with fail
      clear hm2 u1 u2 u3
      have h7 := h6.box #[.slice none 0 0] 64
      go_wp2_with fail
      obtain ⟨rb, hrb⟩ : ∃ b, b = w4.heap.size := ⟨_, rfl⟩
      obtain ⟨W5, hW5⟩ : ∃ W, W = w4.alloc (.cells #[.slice none 0 0] 64) := ⟨_, rfl⟩
      rw [← hrb, ← hW5] at h7
      rw [← hrb, ← hW5]
      clear hrb hW5
      refine (jread_any _ W5).mono ?_
      rintro e6 w6 ⟨rfl, rfl⟩
      obtain ⟨c, hc⟩ : ∃ c, c = W5.heap.size := ⟨_, rfl⟩
      have h8 := (Own.swap _ _ h7).box #[.string (G.extract 64 e)] 9
      obtain ⟨W6, hW6⟩ : ∃ W, W = W5.alloc (.cells #[.string (G.extract 64 e)] 9) := ⟨_, rfl⟩
      rw [← hc, ← hW6] at h8
      rw [← hc, ← hW6]
      clear hc hW6 h7
      go_wp2_with fail
      have hSs : (G.extract 64 e).size ≤ 16777216 := by rw [ByteArray.size_extract]; omega
      refine wpIn_wide.1 (wpIn_range_own (F := Fence.wide) (n := 5) rfl (by decide) (gf := 65) (lb := #[.pointer (some ⟨c, 0, none⟩)]) rfl trivial (enters_of Try.func65 (by kernel_rfl) rfl)
        (read_iter 4 c (by decide) (G.extract 64 e) (by omega)) (fun _ => rfl) w0
        (fun pre X => (∀ p ∈ pre, p.2 = true) ∧ ∃ v, X = [cellT rb #[v] 64, strsT v (pre.map Prod.fst), cellT jb #[.pointer (some ⟨j, 0, none⟩)] 65, jT j d ⟨64, pre.length, sumL (pre.map Prod.fst), false⟩, cellT r1 #[.pointer none] 65, cellT r2 #[.slice none 0 0] 64, cellT r3 #[.int .i64 0] 44] ++ L1)
        (fun _ pre _ => ∃ p ∈ pre, p.2 = false)
        ([cellT rb #[.slice none 0 0] 64, strsT (.slice none 0 0) [], cellT jb #[.pointer (some ⟨j, 0, none⟩)] 65, jT j d ⟨64, 0, 0, false⟩, cellT r1 #[.pointer none] 65, cellT r2 #[.slice none 0 0] 64, cellT r3 #[.int .i64 0] 44] ++ L1)
        ?start ⟨by simp, _, rfl⟩ ?round ?done ?stop)
      case start =>
        have h9 := own_nil h8
        exact start_fin h9
      case round =>
        rintro l pre ⟨r, ok⟩ W L' ⟨hall', v, rfl⟩ hpre
        have Hall0 := Lib.hid hall'
        clear hall'
        dsimp only [encR]
        obtain ⟨rs, hrs⟩ : ∃ rs : ByteArray, (⟨r.toArray⟩ : ByteArray) = rs := ⟨_, rfl⟩
        have hrl : rs.size = r.length := by rw [← hrs]; show r.toArray.size = _; simp
        have hbd : pre.length + 1 + (sumL (pre.map Prod.fst) + r.length) ≤ 16777216 := by
          obtain ⟨t, ht⟩ := hpre
          have hb := visL_bound _ (G.extract 64 e).data.toList (Nat.le_refl _)
          rw [← ht, size_toList] at hb
          simp only [List.length_append, List.map_append, sumL_append, List.map_cons, List.map_nil, sumL_one, List.length_cons, List.length_nil] at hb
          omega
        rw [hrs]
        gi_wp2
        refine ⟨trivial, ?_⟩
        intro M W2 hO
        have hO2 : Own w0 (cellT rb #[v] 64 :: strsT v (pre.map Prod.fst) :: cellT jb #[.pointer (some ⟨j, 0, none⟩)] 65 :: jT j d ⟨64, pre.length, sumL (pre.map Prod.fst), false⟩ :: cellT r1 #[.pointer none] 65 :: cellT r2 #[.slice none 0 0] 64 :: cellT r3 #[.int .i64 0] 44 :: (L1 ++ M)) W2 := hO
        obtain ⟨k0, k0f⟩ := hO2.cell1 (x := rb) (v := v) (t := 64) 0 rfl
        obtain ⟨kj, kjf⟩ := hO2.cell1 (x := jb) (v := .pointer (some ⟨j, 0, none⟩)) (t := 65) 2 rfl
        obtain ⟨k1, k1f⟩ := hO2.cell1 (x := r1) (v := .pointer none) (t := 65) 4 rfl
        obtain ⟨k2, k2f⟩ := hO2.cell1 (x := r2) (v := .slice none 0 0) (t := 64) 5 rfl
        obtain ⟨k3, k3f⟩ := hO2.cell1 (x := r3) (v := .int .i64 0) (t := 44) 6 rfl
        cases ok
        · gi_wp2
          refine ⟨[cellT rb #[v] 64, strsT v (pre.map Prod.fst), cellT jb #[.pointer (some ⟨j, 0, none⟩)] 65, jT j d ⟨64, pre.length, sumL (pre.map Prod.fst), false⟩, cellT r1 #[.pointer none] 65, cellT r2 #[.slice none 0 0] 64, cellT r3 #[.int .i64 11] 44] ++ L1, ⟨(r, false), by simp, rfl⟩, ?_⟩
          exact ((hO2.store 4 rfl 0 (.pointer none)).store 5 rfl 0 (.slice none 0 0)).store 6 rfl 0 (.int .i64 11)
        · have hO3 := hO2.alloc (.cells #[.string rs] 9)
          obtain ⟨hrow, hturn⟩ := hO3.strs 1 rfl
          obtain ⟨i0, hi, hz0, hz1, hz2⟩ := info_parts Try.info9
          have hpl : (pre.map Prod.fst).length = pre.length := List.length_map _
          have hb1 : ((pre.map Prod.fst).length + 1) * 16 ≤ 140737488355328 := by omega
          have hb2 : (pre.map Prod.fst).length + 1 ≤ maxLen := by unfold maxLen; omega
          have hnews := new_cells W2 #[.string rs] 9 W2.heap.size rfl
          have hfin : ∀ p ∈ pre ++ [(r, true)], p.2 = true := by
            intro p hp
            rcases List.mem_append.1 hp with hp | hp
            · exact Hall0.out p hp
            · rw [List.mem_singleton.1 hp]
          have Hfin := Lib.hid hfin
          clear hfin
          have Hturn := Lib.hid hturn
          have Hpl := Lib.hid hpl
          have Hrs := Lib.hid hrs
          have Hrl := Lib.hid hrl
          have Hnews := Lib.hid hnews
          have Hz := Lib.hid (And.intro hi (And.intro hz0 (And.intro hz1 hz2)))
          have Hb := Lib.hid (And.intro hb1 hb2)
          have Hrow := Lib.hid hrow
          clear hturn hpl hrs hrl hnews hi hz0 hz1 hz2 hb1 hb2 hrow
          have nrj := hO2.ne 0 2 rfl rfl (by decide)
          have njr := nrj.symm
          have nrJ := hO2.ne (x := rb) (y := j) (cs := #[v]) (ds := #[.pointer (some ⟨d, 0, none⟩), .int .i64 64, .int .i64 pre.length, .int .i64 (sumL (pre.map Prod.fst)), .bool false]) (t := 64) (u := 95) 0 3 rfl rfl (by decide)
          have nJr := nrJ.symm
          have njJ := hO2.ne (x := jb) (y := j) (cs := #[.pointer (some ⟨j, 0, none⟩)]) (ds := #[.pointer (some ⟨d, 0, none⟩), .int .i64 64, .int .i64 pre.length, .int .i64 (sumL (pre.map Prod.fst)), .bool false]) (t := 65) (u := 95) 2 3 rfl rfl (by decide)
          have nJj := njJ.symm
          have hrs2 : rs.size ≤ 16777216 := by rw [Hrl.out]; omega
          have hsm : sumL (pre.map Prod.fst) ≤ 16777216 := by omega
          have hpm : pre.length ≤ 16777216 := by omega
          clear hO3 k1 k1f k2 k2f k3 k3f hbd
          gi_wp2_with (gi_at_builtin; refine wpListIn_append_one rfl (.tmp 62) (.tmp 64) 64 rfl 9 i0 (.string ⟨#[]⟩) 1 16 Try.underlying64 Hz.out.1 Hz.out.2.1 Hz.out.2.2.1 Hz.out.2.2.2 rfl (by decide) v (pre.map Prod.fst).length ((pre.map Prod.fst).map strV') rfl Hrow.out ⟨W2.heap.size, 0, none⟩ 1 [.string rs] rfl rfl Hnews.out (by simp [Value.oneCell']) Hb.out.1 Hb.out.2 ?_; intro g cap w1 hown hfr hg; have h9 := Hturn.out (.slice (some ⟨g, 0, none⟩) ((pre.map Prod.fst).length + 1) cap) (pre.map Prod.fst ++ [r]) w1 (strs_snoc hown Hrs.out) hfr (blk_new hg); obtain ⟨y0, y0f⟩ := h9.cell1 (x := rb) (v := v) (t := 64) 0 rfl; obtain ⟨yj, yjf⟩ := h9.cell1 (x := jb) (v := .pointer (some ⟨j, 0, none⟩)) (t := 65) 2 rfl; obtain ⟨-, -, z2, z3, -, -, -, z2f, z3f, -⟩ := Own.jcells h9 (j := j) (d := d) (J := ⟨64, pre.length, sumL (pre.map Prod.fst), false⟩) 3 rfl; have Hown := Lib.hid hown; have Hg := Lib.hid hg; clear hown hg hfr k0 k0f kj kjf)
          have h10 := ((h9.store 0 rfl 0 (.slice (some ⟨g, 0, none⟩) ((pre.map Prod.fst).length + 1) cap)).store 3 rfl 2 (.int .i64 ((pre.length : Int) + 1))).store 3 rfl 3 (.int .i64 ((sumL (pre.map Prod.fst) : Int) + rs.size))
          rw [Hpl.out] at h10
          have e1 : (pre ++ [(r, true)]).map Prod.fst = pre.map Prod.fst ++ [r] := by simp
          have e2 : (pre ++ [(r, true)]).length = pre.length + 1 := by simp
          have e3 : sumL (pre.map Prod.fst ++ [r]) = sumL (pre.map Prod.fst) + rs.size := by rw [sumL_append, sumL_one, Hrl.out]
          refine ⟨[cellT rb #[.slice (some ⟨g, 0, none⟩) (pre.length + 1) cap] 64, strsT (.slice (some ⟨g, 0, none⟩) (pre.length + 1) cap) ((pre ++ [(r, true)]).map Prod.fst), cellT jb #[.pointer (some ⟨j, 0, none⟩)] 65, jT j d ⟨64, (pre ++ [(r, true)]).length, sumL ((pre ++ [(r, true)]).map Prod.fst), false⟩, cellT r1 #[.pointer none] 65, cellT r2 #[.slice none 0 0] 64, cellT r3 #[.int .i64 0] 44] ++ L1, ⟨?_, _, rfl⟩, ?_⟩
          · first | exact Hfin.out | (intro a b hp; exact Hfin.out (a, b) hp) | simpa using Hfin.out
          · rw [e1, e2, e3]
            unfold jT
            rw [show (((⟨64, pre.length + 1, sumL (pre.map Prod.fst) + rs.size, false⟩ : Jn).many : Nat) : Int) = (pre.length : Int) + 1 from rfl, show (((⟨64, pre.length + 1, sumL (pre.map Prod.fst) + rs.size, false⟩ : Jn).bytes : Nat) : Int) = (sumL (pre.map Prod.fst) : Int) + rs.size from rfl]
            exact h10
      case done =>
        rintro D3 xs W L' M rfl ⟨hall', v, rfl⟩ hO
        clear hall'
        have hO2 : Own w0 (cellT rb #[v] 64 :: strsT v ((visL (G.extract 64 e).data.toList).map Prod.fst) :: cellT jb #[.pointer (some ⟨j, 0, none⟩)] 65 :: jT j d ⟨64, (visL (G.extract 64 e).data.toList).length, sumL ((visL (G.extract 64 e).data.toList).map Prod.fst), false⟩ :: cellT r1 #[.pointer none] 65 :: cellT r2 #[.slice none 0 0] 64 :: cellT r3 #[.int .i64 0] 44 :: (L1 ++ (M ++ [blockT D3 (.deferred (some []))]))) W := hO
        have hRl : (visL (G.extract 64 e).data.toList).length = R.length := by rw [HR.out, List.length_map]
        rw [← HR.out, hRl] at hO2
        clear hO hRl
        obtain ⟨k0, k0f⟩ := hO2.cell1 (x := rb) (v := v) (t := 64) 0 rfl
        obtain ⟨kj, kjf⟩ := hO2.cell1 (x := jb) (v := .pointer (some ⟨j, 0, none⟩)) (t := 65) 2 rfl
        obtain ⟨-, x1, -, -, -, -, x1f, -, -, -⟩ := Own.jcells hO2 (j := j) (d := d) (J := ⟨64, R.length, sumL R, false⟩) 3 rfl
        obtain ⟨k1, k1f⟩ := hO2.cell1 (x := r1) (v := .pointer none) (t := 65) 4 rfl
        obtain ⟨k2, k2f⟩ := hO2.cell1 (x := r2) (v := .slice none 0 0) (t := 64) 5 rfl
        obtain ⟨k3, k3f⟩ := hO2.cell1 (x := r3) (v := .int .i64 0) (t := 44) 6 rfl
        go_upto_region 26 with fail
        have h11 : Own w0 (cellT rb #[v] 64 :: strsT v R :: cellT jb #[.pointer (some ⟨j, 0, none⟩)] 65 :: jT j d ⟨e, R.length, sumL R, false⟩ :: cellT r1 #[.pointer none] 65 :: cellT r2 #[.slice none 0 0] 64 :: cellT r3 #[.int .i64 0] 44 :: (L1 ++ (M ++ [blockT D3 (.deferred (some []))]))) (W.setCell ⟨j, 1, none⟩ (.int .i64 e)) := hO2.store 3 rfl 1 (.int .i64 e)
        clear k0 k0f kj kjf x1 x1f k1 k1f k2 k2f k3 k3f
        generalize W.setCell ⟨j, 1, none⟩ (.int .i64 e) = W7 at h11 ⊢
        obtain ⟨k0, k0f⟩ := h11.cell1 (x := rb) (v := v) (t := 64) 0 rfl
        obtain ⟨kj, kjf⟩ := h11.cell1 (x := jb) (v := .pointer (some ⟨j, 0, none⟩)) (t := 65) 2 rfl
        obtain ⟨k1, k1f⟩ := h11.cell1 (x := r1) (v := .pointer none) (t := 65) 4 rfl
        obtain ⟨k2, k2f⟩ := h11.cell1 (x := r2) (v := .slice none 0 0) (t := 64) 5 rfl
        obtain ⟨k3, k3f⟩ := h11.cell1 (x := r3) (v := .int .i64 0) (t := 44) 6 rfl
        have nb1 := h11.ne 0 4 rfl rfl (by decide)
        have n1b := nb1.symm
        clear hO2
        obtain ⟨ao, cap, rfl⟩ := strs_form (h11.strs 1 rfl).1
        go_region
        all_goals
          go_wp2
          obtain ⟨f1, f2, f3, f4⟩ := open_fin (Own.swap [cellT rb #[.slice ao R.length cap] 64, strsT (.slice ao R.length cap) R] _ h11) (.pointer (some ⟨j, 0, none⟩)) (.slice ao R.length cap) (.int .i64 0)
          have f5 := (pick_fin f4).drew
          have hK := f5.blk 0 rfl
          refine ⟨by simp, .inl ⟨D3, _, rfl, run_takeDeferred hK, ?_⟩⟩
          have f6 := (f5.putBlk 0 rfl (.deferred none)).tail
          refine ⟨_, open_results _ _ ⟨r1, 0, none⟩ ⟨r2, 0, none⟩ ⟨r3, 0, none⟩ (.pointer (some ⟨j, 0, none⟩)) (.slice ao R.length cap) (.int .i64 0) rfl rfl rfl ?_ ?_ ?_, j, _, rfl, ?_⟩
          · exact cell_put hK f1
          · exact cell_put hK f2
          · exact cell_put hK f3
          · rw [← HL1.out]
            exact f6
      case stop =>
        rintro D3 c3 pre W L' M ⟨t, ht⟩ ⟨p, hp, hp2⟩ hO
        exact absurd (Hall.out p (by rw [← ht]; simp [hp])) (by rw [hp2]; simp)
end
end Go.Proofs.Ytehdjajeonemoaa
