/-
  date.Read: what its code does. Printed by wip/read.py. Conditions: the texts are within reach; the package variables read as the text lays them.
-/
import Derived.Test.YtmpfgdpicbpedaaDoorFmt
namespace Go.Proofs.YtmpfgdpicbpedaaDoor
open Go.RowKit Go.Shelf
attribute [local go_sem] Oper.semAt_some

/-- The text s is the text of a day in the layout l. -/
def IsDay (l s : List UInt8) (n : Int) : Prop := rightB l = true ∧ ∃ y m d : Nat, Civ n y m d ∧ fmtL y m d l = s
/-- What Read answers. -/
def rdO (l s : List UInt8) (e : Ending) : Prop := ((∀ n, ¬ IsDay l s n) ∧ e = .returned (.tuple #[.int .i64 0, .bool false])) ∨ ∃ n, IsDay l s n ∧ e = .returned (.tuple #[.int .i64 n, .bool true])

theorem IsDay.rd {l s : List UInt8} {n : Int} (h : IsDay l s n) : ∃ y m d : Nat, Civ n y m d ∧ fmtL y m d l = s ∧ rd (parts l) s (0, 0, 0) = some (y, m, d) ∧ rr s (parts l) 0 (0, 0, 0) = some (y, m, d) := by
  obtain ⟨hr, y, m, d, hc, rfl⟩ := h
  obtain ⟨y', m', d', h1, h2, h3, b1, b2, b3⟩ := hc.nat
  have e1 : y = y' := by omega
  have e2 : m = m' := by omega
  have e3 : d = d' := by omega
  subst e1; subst e2; subst e3
  exact ⟨y, m, d, hc, rfl, rd_back hr y m d (by omega) (by omega) (by omega) _, rr_back hr y m d (by omega) (by omega) (by omega) _⟩

theorem dgs_len (l : List UInt8) (k : Nat) : (dgs l k).length ≤ l.length := by
  unfold dgs
  have h1 := (List.takeWhile_prefix digB (l := l.take k)).length_le
  rw [List.length_take] at h1
  omega

def rdT (r1 r2 a b c q : Nat) (v : Ymd) (rest : ByteArray) : List Thing :=
  [cellT r1 #[.int .i64 0] 3, cellT r2 #[.bool false] 4, cellT a #[.int .i64 (v.1 : Nat)] 3, cellT b #[.int .i64 (v.2.1 : Nat)] 3, cellT c #[.int .i64 (v.2.2 : Nat)] 3, cellT q #[.string rest] 9]
theorem read_results (tmps : Array Value) (w : World) (a b : Addr) (x y : Value) (h1 : tmps[4]?.getD undef = .pointer (some a)) (h2 : tmps[5]?.getD undef = .pointer (some b)) (c1 : w.cell? a = some x) (c2 : w.cell? b = some y) (hx : ∃ n, x = .int .i64 n) (hy : y = .bool true ∨ y = .bool false) : (results Tryd.f25 tmps).run Tryd.prog w = .ok (.tuple #[x, y]) w := by
  obtain ⟨n, rfl⟩ := hx
  rcases hy with rfl | rfl <;> simp [results, Tryd.results25, go_sem, h1, h2, c1, c2]

theorem rd_field {x : List UInt8} {ps : List (List UInt8)} {r : List UInt8} {v : Ymd} (h : isF x = true) : rd (x :: ps) r v = rd ps (r.drop (dgs r (max x.length 2)).length) (setV v x (val (dgs r (max x.length 2)))) := by
  simp only [rd]; rw [if_pos h]
theorem rd_lit {x : List UInt8} {ps : List (List UInt8)} {r : List UInt8} {v : Ymd} (h : isF x = false) (hp : x.isPrefixOf r = true) : rd (x :: ps) r v = rd ps (r.drop x.length) v := by
  simp only [rd]; rw [h, if_neg (by simp), if_pos hp]
theorem rd_bad {x : List UInt8} {ps : List (List UInt8)} {r : List UInt8} {v : Ymd} (h : isF x = false) (hp : x.isPrefixOf r = false) : rd (x :: ps) r v = none := by
  simp only [rd]; rw [h, if_neg (by simp), hp, if_neg (by simp)]

def rdI (l s : List UInt8) (sz : Nat) (r1 r2 a b c q : Nat) (pre : List (List UInt8)) (X : List Thing) : Prop :=
  ∃ (v : Ymd) (rest : ByteArray) (ps : List (List UInt8)), X = rdT r1 r2 a b c q v rest ∧ parts l = pre ++ ps ∧ rd (parts l) s (0, 0, 0) = rd ps rest.data.toList v ∧ rest.size ≤ sz
def rdX (l s : List UInt8) (r1 r2 a b c q : Nat) (cd : Code) (_ : List (List UInt8)) (X : List Thing) : Prop :=
  cd = .ret ∧ rd (parts l) s (0, 0, 0) = none ∧ ∃ (v : Ymd) (rest : ByteArray), X = rdT r1 r2 a b c q v rest

theorem rd_end {w : World} {r1 r2 a b c q : Nat} {v : Ymd} {rest : ByteArray} {M : List Thing} {D3 : Nat} {W : World} (h : Own w (rdT r1 r2 a b c q v rest ++ (M ++ [blockT D3 (.deferred (some []))])) W) (n : Int) (t : Bool) :
    ((W.setCell ⟨r1, 0, none⟩ (.int .i64 n)).setCell ⟨r2, 0, none⟩ (.bool t)).cell? ⟨r1, 0, none⟩ = some (.int .i64 n) ∧ ((W.setCell ⟨r1, 0, none⟩ (.int .i64 n)).setCell ⟨r2, 0, none⟩ (.bool t)).cell? ⟨r2, 0, none⟩ = some (.bool t) ∧ Own w (blockT D3 (.deferred (some [])) :: []) ((W.setCell ⟨r1, 0, none⟩ (.int .i64 n)).setCell ⟨r2, 0, none⟩ (.bool t)) := by
  have h2 := (h.store 0 rfl 0 (.int .i64 n)).store 1 rfl 0 (.bool t)
  refine ⟨(h2.cell1 (x := r1) (v := .int .i64 n) (t := 3) 0 rfl).1, (h2.cell1 (x := r2) (v := .bool t) (t := 4) 1 rfl).1, ?_⟩
  refine h2.reidx (fun _ => 6 + M.length) (fun j U hj => ?_) (fun i j hi hj _ => by simp at hi hj; omega)
  cases j with
  | zero =>
    have hU : blockT D3 (.deferred (some [])) = U := by simpa using hj
    subst hU
    rw [show 6 + M.length = M.length + 1 + 1 + 1 + 1 + 1 + 1 by omega]
    show (M ++ [blockT D3 (.deferred (some []))])[M.length]? = _
    rw [List.getElem?_append_right (Nat.le_refl _), Nat.sub_self]
    rfl
  | succ j => simp at hj

theorem rd_tail {w : World} {r1 r2 a b c q : Nat} {v : Ymd} {rest : ByteArray} {M : List Thing} {D3 : Nat} {W : World} (h : Own w (rdT r1 r2 a b c q v rest ++ (M ++ [blockT D3 (.deferred (some []))])) W) : Own w (blockT D3 (.deferred (some [])) :: []) W := by
  refine h.reidx (fun _ => 6 + M.length) (fun j U hj => ?_) (fun i j hi hj _ => by simp at hi hj; omega)
  cases j with
  | zero =>
    have hU : blockT D3 (.deferred (some [])) = U := by simpa using hj
    subst hU
    rw [show 6 + M.length = M.length + 1 + 1 + 1 + 1 + 1 + 1 by omega]
    show (M ++ [blockT D3 (.deferred (some []))])[M.length]? = _
    rw [List.getElem?_append_right (Nat.le_refl _), Nat.sub_self]
    rfl
  | succ j => simp at hj

set_option maxRecDepth 100000 in
set_option maxHeartbeats 8000000 in
theorem read_any (s t : ByteArray) (hs : s.size ≤ 9223372036854775807) (ht : t.size ≤ 9223372036854775807) (w : World) (hT : Tabs w) : Calls Tryd.prog 25 #[.string s, .string t] w fun e w' => rdO s.data.toList t.data.toList e ∧ Frm (fun _ => False) w w' := by
  refine callsIn_wide.1 (callsIn_of_wp_marks (n := 5) Tryd.func25 rfl trivial (wpIn_wide.2 ?_) rfl)
  simp only [Tryd.ntmps25, List.size_toArray, List.length_cons, List.length_nil, Nat.reduceAdd, Nat.reduceSub, Array.replicate_succ, Array.replicate_zero, List.push_toArray, List.append_toArray, List.nil_append, List.cons_append]
  have h1 := ((Own.start w).box #[.int .i64 0] 3).box #[.bool false] 4
  simp only [World.size_alloc] at h1
  go_wp2_with fail
  obtain ⟨W2, hW2⟩ : ∃ W, W = ((w.alloc (.cells #[.int .i64 0] 3)).alloc (.cells #[.bool false] 4)) := ⟨_, rfl⟩
  obtain ⟨r2, hr2⟩ : ∃ b, b = w.heap.size + 1 := ⟨_, rfl⟩
  obtain ⟨r1, hr1⟩ : ∃ b, b = w.heap.size := ⟨_, rfl⟩
  rw [← hW2, ← hr2, ← hr1] at h1
  rw [← hW2, ← hr2, ← hr1]
  clear hW2 hr2 hr1
  refine (dright_any s hs W2).mono ?_
  rintro e W3 ⟨rfl, f3⟩
  have h3 := h1.still f3
  clear f3 h1
  obtain ⟨rb, hrb⟩ : ∃ r, r = rightB s.data.toList := ⟨_, rfl⟩
  rw [← hrb]
  have Hr := Lib.hid hrb
  clear hrb
  obtain ⟨x1, y1⟩ := h3.cell1 (x := r1) (v := .int .i64 0) (t := 3) 0 rfl
  obtain ⟨x2, y2⟩ := h3.cell1 (x := r2) (v := .bool false) (t := 4) 1 rfl
  have n12 := h3.ne (x := r1) (y := r2) (cs := #[.int .i64 0]) (ds := #[.bool false]) (t := 3) (u := 4) 0 1 rfl rfl (by decide)
  have n21 := n12.symm
  cases rb
  · have h4 := (h3.store 0 rfl 0 (.int .i64 0)).store 1 rfl 0 (.bool false)
    obtain ⟨z1, -⟩ := h4.cell1 (x := r1) (v := .int .i64 0) (t := 3) 0 rfl
    obtain ⟨z2, -⟩ := h4.cell1 (x := r2) (v := .bool false) (t := 4) 1 rfl
    have hf := h4.frm
    clear h3 h4
    go_wp2_with fail
    exact ⟨_, read_results _ _ ⟨r1, 0, none⟩ ⟨r2, 0, none⟩ _ _ rfl rfl z1 z2 ⟨_, rfl⟩ (.inr rfl), .inl ⟨fun n hn => by have := hn.1; rw [← Hr.out] at this; simp at this, rfl⟩, hf⟩
  · have hsz : s.size ≤ 40 := by rw [← size_toList]; exact rightB_size Hr.out.symm
    have h4 := (((h3.box #[.int .i64 0] 3).box #[.int .i64 0] 3).box #[.int .i64 0] 3).box #[.string t] 9
    simp only [World.size_alloc] at h4
    clear h3
    go_wp2_with fail
    obtain ⟨W4, hW4⟩ : ∃ W, W = ((((W3.alloc (.cells #[.int .i64 0] 3)).alloc (.cells #[.int .i64 0] 3)).alloc (.cells #[.int .i64 0] 3)).alloc (.cells #[.string t] 9)) := ⟨_, rfl⟩
    obtain ⟨q, hq⟩ : ∃ b, b = W3.heap.size + 1 + 1 + 1 := ⟨_, rfl⟩
    obtain ⟨c, hc⟩ : ∃ b, b = W3.heap.size + 1 + 1 := ⟨_, rfl⟩
    obtain ⟨b, hb⟩ : ∃ b, b = W3.heap.size + 1 := ⟨_, rfl⟩
    obtain ⟨a, ha⟩ : ∃ b, b = W3.heap.size := ⟨_, rfl⟩
    rw [← hW4, ← hq, ← hc, ← hb, ← ha] at h4
    rw [← hW4, ← hq, ← hc, ← hb, ← ha]
    clear hW4 hq hc hb ha x1 y1 x2 y2
    refine (tokens_any s W4).mono ?_
    rintro e w6 ⟨rfl, rfl⟩
    have h5 := h4.box #[.string s] 9
    obtain ⟨cl, hcl⟩ : ∃ b, b = W4.heap.size := ⟨_, rfl⟩
    obtain ⟨W6, hW6⟩ : ∃ W, W = W4.alloc (.cells #[.string s] 9) := ⟨_, rfl⟩
    rw [← hcl, ← hW6] at h5 ⊢
    have h6 : Own w (rdT r1 r2 a b c q (0, 0, 0) t ++ [cellT cl #[.string s] 9]) W6 := h5
    clear hcl hW6 h4 h5
    go_wp2_with fail
    refine wpIn_wide.1 (wpIn_range_box (F := Fence.wide) (n := 5) rfl (by decide) (gf := 58) (lb := #[.pointer (some ⟨cl, 0, none⟩)]) rfl trivial (enters_of Tryd.func58 (by kernel_rfl) rfl)
      (tokens_iter 4 cl (by decide) s (by omega)) (fun _ => rfl) w
      (rdI s.data.toList t.data.toList t.size r1 r2 a b c q) (rdX s.data.toList t.data.toList r1 r2 a b c q)
      (rdT r1 r2 a b c q (0, 0, 0) t) h6 ⟨(0, 0, 0), t, _, rfl, rfl, rfl, Nat.le_refl _⟩ ?round ?done ?stop)
    case round =>
      rintro l pre x W L' M ⟨v, rest, ps, rfl, hps, hrd, hle⟩ hpre hO
      dsimp only [encT]
      have hx : Form x := by
        obtain ⟨t, ht⟩ := hpre
        exact parts_form s.data.toList x (by rw [← ht]; simp)
      obtain ⟨ps2, hps2⟩ : ∃ ps2, ps = x :: ps2 := by
        obtain ⟨t, ht⟩ := hpre
        refine ⟨t, ?_⟩
        rw [← ht, List.append_assoc] at hps
        exact (List.append_cancel_left hps).symm
      subst hps2
      have hps3 : parts s.data.toList = (pre ++ [x]) ++ ps2 := by rw [hps, List.append_assoc]; rfl
      have Hps := Lib.hid hps3
      have Hrd := Lib.hid hrd
      clear hps hps3 hrd hpre
      unfold tokV strV
      obtain ⟨xs, hxs⟩ : ∃ xs : ByteArray, (⟨x.toArray⟩ : ByteArray) = xs := ⟨_, rfl⟩
      rw [hxs]
      have h5 := Own.swap _ _ (hO.box #[.string xs, .bool (isF x)] 74)
      gi_wp2
      obtain ⟨tb, htb⟩ : ∃ b, b = W.heap.size := ⟨_, rfl⟩
      rw [← htb] at h5 ⊢
      refine ⟨cellT tb #[.string xs, .bool (isF x)] 74 :: rdT r1 r2 a b c q v rest, h5, ?_⟩
      clear hO h5 htb
      intro M2 W2 hO2
      have hO3 : Own w (cellT tb #[.string xs, .bool (isF x)] 74 :: cellT r1 #[.int .i64 0] 3 :: cellT r2 #[.bool false] 4 :: cellT a #[.int .i64 (v.1 : Nat)] 3 :: cellT b #[.int .i64 (v.2.1 : Nat)] 3 :: cellT c #[.int .i64 (v.2.2 : Nat)] 3 :: cellT q #[.string rest] 9 :: M2) W2 := hO2
      clear hO2
      obtain ⟨t0, t1, -, -⟩ := cells2 (hO3.obj (x := tb) (cs := #[.string xs, .bool (isF x)]) (t := 74) 0 rfl)
      obtain ⟨x1, y1⟩ := hO3.cell1 (x := r1) (v := .int .i64 0) (t := 3) 1 rfl
      obtain ⟨x2, y2⟩ := hO3.cell1 (x := r2) (v := .bool false) (t := 4) 2 rfl
      obtain ⟨x3, y3⟩ := hO3.cell1 (x := a) (v := .int .i64 (v.1 : Nat)) (t := 3) 3 rfl
      obtain ⟨x4, y4⟩ := hO3.cell1 (x := b) (v := .int .i64 (v.2.1 : Nat)) (t := 3) 4 rfl
      obtain ⟨x5, y5⟩ := hO3.cell1 (x := c) (v := .int .i64 (v.2.2 : Nat)) (t := 3) 5 rfl
      obtain ⟨x6, y6⟩ := hO3.cell1 (x := q) (v := .string rest) (t := 9) 6 rfl
      have nqt := hO3.ne (x := q) (y := tb) (cs := #[.string rest]) (ds := #[.string xs, .bool (isF x)]) (t := 9) (u := 74) 6 0 rfl rfl (by decide)
      have ntq := nqt.symm
      have nqa := hO3.ne (x := q) (y := a) (cs := #[.string rest]) (ds := #[.int .i64 (v.1 : Nat)]) (t := 9) (u := 3) 6 3 rfl rfl (by decide)
      have naq := nqa.symm
      have nqb := hO3.ne (x := q) (y := b) (cs := #[.string rest]) (ds := #[.int .i64 (v.2.1 : Nat)]) (t := 9) (u := 3) 6 4 rfl rfl (by decide)
      have nbq := nqb.symm
      have nqc := hO3.ne (x := q) (y := c) (cs := #[.string rest]) (ds := #[.int .i64 (v.2.2 : Nat)]) (t := 9) (u := 3) 6 5 rfl rfl (by decide)
      have ncq := nqc.symm
      cases hx with
      | field hf =>
        rw [hf] at t1 hO3
        have hrf := (Hrd.out).trans (rd_field (ps := ps2) (r := rest.data.toList) (v := v) hf)
        rcases field_cases hf with hx | hx | hx | hx | hx
        · subst hx
          obtain rfl : xs = ⟨#[89, 89, 89, 89]⟩ := hxs.symm
          rw [show setV v fY (val (dgs rest.data.toList (max fY.length 2))) = (val (dgs rest.data.toList 4), v.2.1, v.2.2) from rfl, show max fY.length 2 = 4 from rfl] at hrf
          have hda := digits_any rest 4 (by omega) (by decide) W2
          have hg := dgs_len rest.data.toList 4
          rw [size_toList] at hg
          generalize val (dgs rest.data.toList 4) = X at hrf hda
          generalize (dgs rest.data.toList 4).length = G at hrf hda hg
          have e1 : (rest.extract G rest.size).data.toList = rest.data.toList.drop G := Lib.extract_to_end _ _
          rw [← e1] at hrf
          have Hrf := Lib.hid hrf
          have Hda := Lib.hid hda
          have hle2 : (rest.extract G rest.size).size ≤ t.size := by rw [ByteArray.size_extract]; omega
          clear hrf hda hxs Hrd e1
          gi_wp2_with fail
          refine ⟨trivial, CallsIn.inRound l (callsIn_wide.2 Hda.out) |>.mono ?_⟩
          rintro e w5 ⟨rfl, rfl⟩
          gi_wp2_with fail
          refine ⟨rdT r1 r2 a b c q (X, v.2.1, v.2.2) (rest.extract G rest.size), ⟨(X, v.2.1, v.2.2), rest.extract G rest.size, ps2, rfl, Hps.out, Hrf.out, hle2⟩, ?_⟩
          exact ((hO3.store 6 rfl 0 (.string (rest.extract G rest.size))).store 3 rfl 0 (.int .i64 (X : Nat))).tail
        · subst hx
          obtain rfl : xs = ⟨#[77, 77]⟩ := hxs.symm
          rw [show setV v fMM (val (dgs rest.data.toList (max fMM.length 2))) = (v.1, val (dgs rest.data.toList 2), v.2.2) from rfl, show max fMM.length 2 = 2 from rfl] at hrf
          have hda := digits_any rest 2 (by omega) (by decide) W2
          have hg := dgs_len rest.data.toList 2
          rw [size_toList] at hg
          generalize val (dgs rest.data.toList 2) = X at hrf hda
          generalize (dgs rest.data.toList 2).length = G at hrf hda hg
          have e1 : (rest.extract G rest.size).data.toList = rest.data.toList.drop G := Lib.extract_to_end _ _
          rw [← e1] at hrf
          have Hrf := Lib.hid hrf
          have Hda := Lib.hid hda
          have hle2 : (rest.extract G rest.size).size ≤ t.size := by rw [ByteArray.size_extract]; omega
          clear hrf hda hxs Hrd e1
          gi_wp2_with fail
          refine ⟨trivial, CallsIn.inRound l (callsIn_wide.2 Hda.out) |>.mono ?_⟩
          rintro e w5 ⟨rfl, rfl⟩
          gi_wp2_with fail
          refine ⟨rdT r1 r2 a b c q (v.1, X, v.2.2) (rest.extract G rest.size), ⟨(v.1, X, v.2.2), rest.extract G rest.size, ps2, rfl, Hps.out, Hrf.out, hle2⟩, ?_⟩
          exact ((hO3.store 6 rfl 0 (.string (rest.extract G rest.size))).store 4 rfl 0 (.int .i64 (X : Nat))).tail
        · subst hx
          obtain rfl : xs = ⟨#[77]⟩ := hxs.symm
          rw [show setV v fM (val (dgs rest.data.toList (max fM.length 2))) = (v.1, val (dgs rest.data.toList 2), v.2.2) from rfl, show max fM.length 2 = 2 from rfl] at hrf
          have hda := digits_any rest 2 (by omega) (by decide) W2
          have hg := dgs_len rest.data.toList 2
          rw [size_toList] at hg
          generalize val (dgs rest.data.toList 2) = X at hrf hda
          generalize (dgs rest.data.toList 2).length = G at hrf hda hg
          have e1 : (rest.extract G rest.size).data.toList = rest.data.toList.drop G := Lib.extract_to_end _ _
          rw [← e1] at hrf
          have Hrf := Lib.hid hrf
          have Hda := Lib.hid hda
          have hle2 : (rest.extract G rest.size).size ≤ t.size := by rw [ByteArray.size_extract]; omega
          clear hrf hda hxs Hrd e1
          gi_wp2_with fail
          refine ⟨trivial, CallsIn.inRound l (callsIn_wide.2 Hda.out) |>.mono ?_⟩
          rintro e w5 ⟨rfl, rfl⟩
          gi_wp2_with fail
          refine ⟨rdT r1 r2 a b c q (v.1, X, v.2.2) (rest.extract G rest.size), ⟨(v.1, X, v.2.2), rest.extract G rest.size, ps2, rfl, Hps.out, Hrf.out, hle2⟩, ?_⟩
          exact ((hO3.store 6 rfl 0 (.string (rest.extract G rest.size))).store 4 rfl 0 (.int .i64 (X : Nat))).tail
        · subst hx
          obtain rfl : xs = ⟨#[68, 68]⟩ := hxs.symm
          rw [show setV v fDD (val (dgs rest.data.toList (max fDD.length 2))) = (v.1, v.2.1, val (dgs rest.data.toList 2)) from rfl, show max fDD.length 2 = 2 from rfl] at hrf
          have hda := digits_any rest 2 (by omega) (by decide) W2
          have hg := dgs_len rest.data.toList 2
          rw [size_toList] at hg
          generalize val (dgs rest.data.toList 2) = X at hrf hda
          generalize (dgs rest.data.toList 2).length = G at hrf hda hg
          have e1 : (rest.extract G rest.size).data.toList = rest.data.toList.drop G := Lib.extract_to_end _ _
          rw [← e1] at hrf
          have Hrf := Lib.hid hrf
          have Hda := Lib.hid hda
          have hle2 : (rest.extract G rest.size).size ≤ t.size := by rw [ByteArray.size_extract]; omega
          clear hrf hda hxs Hrd e1
          gi_wp2_with fail
          refine ⟨trivial, CallsIn.inRound l (callsIn_wide.2 Hda.out) |>.mono ?_⟩
          rintro e w5 ⟨rfl, rfl⟩
          gi_wp2_with fail
          refine ⟨rdT r1 r2 a b c q (v.1, v.2.1, X) (rest.extract G rest.size), ⟨(v.1, v.2.1, X), rest.extract G rest.size, ps2, rfl, Hps.out, Hrf.out, hle2⟩, ?_⟩
          exact ((hO3.store 6 rfl 0 (.string (rest.extract G rest.size))).store 5 rfl 0 (.int .i64 (X : Nat))).tail
        · subst hx
          obtain rfl : xs = ⟨#[68]⟩ := hxs.symm
          rw [show setV v fD (val (dgs rest.data.toList (max fD.length 2))) = (v.1, v.2.1, val (dgs rest.data.toList 2)) from rfl, show max fD.length 2 = 2 from rfl] at hrf
          have hda := digits_any rest 2 (by omega) (by decide) W2
          have hg := dgs_len rest.data.toList 2
          rw [size_toList] at hg
          generalize val (dgs rest.data.toList 2) = X at hrf hda
          generalize (dgs rest.data.toList 2).length = G at hrf hda hg
          have e1 : (rest.extract G rest.size).data.toList = rest.data.toList.drop G := Lib.extract_to_end _ _
          rw [← e1] at hrf
          have Hrf := Lib.hid hrf
          have Hda := Lib.hid hda
          have hle2 : (rest.extract G rest.size).size ≤ t.size := by rw [ByteArray.size_extract]; omega
          clear hrf hda hxs Hrd e1
          gi_wp2_with fail
          refine ⟨trivial, CallsIn.inRound l (callsIn_wide.2 Hda.out) |>.mono ?_⟩
          rintro e w5 ⟨rfl, rfl⟩
          gi_wp2_with fail
          refine ⟨rdT r1 r2 a b c q (v.1, v.2.1, X) (rest.extract G rest.size), ⟨(v.1, v.2.1, X), rest.extract G rest.size, ps2, rfl, Hps.out, Hrf.out, hle2⟩, ?_⟩
          exact ((hO3.store 6 rfl 0 (.string (rest.extract G rest.size))).store 5 rfl 0 (.int .i64 (X : Nat))).tail
      | one u hu h1 h2 =>
        have hn := one_notF h1 h2
        subst hu
        obtain rfl : xs = ⟨#[u]⟩ := hxs.symm
        rw [hn] at t1 hO3
        have hcp := Tryd.strings_CutPrefix rest ⟨#[u]⟩ W2
        unfold Lib.trimPrefix Lib.hasPrefix at hcp
        rw [show (⟨#[u]⟩ : ByteArray).data.toList = [u] from rfl] at hcp
        cases hp : List.isPrefixOf [u] rest.data.toList
        · have hbad := (Hrd.out).trans (rd_bad (ps := ps2) (v := v) hn hp)
          rw [hp] at hcp
          have Hbad := Lib.hid hbad
          have Hcp := Lib.hid hcp
          clear hbad hcp hp hn h1 h2 hxs Hrd hle
          gi_wp2_with fail
          refine ⟨trivial, CallsIn.inRound l (callsIn_wide.2 Hcp.out) |>.mono ?_⟩
          rintro e w5 ⟨rfl, rfl⟩
          gi_wp2_with fail
          refine ⟨rdT r1 r2 a b c q v rest, ⟨rfl, Hbad.out, v, rest, rfl⟩, ?_⟩
          exact ((hO3.store 1 rfl 0 (.int .i64 0)).store 2 rfl 0 (.bool false)).tail
        · have hgood := (Hrd.out).trans (rd_lit (ps := ps2) (v := v) hn hp)
          rw [hp, if_pos rfl] at hcp
          obtain ⟨r3, hr3⟩ : ∃ r3 : ByteArray, r3 = ⟨(rest.data.toList.drop [u].length).toArray⟩ := ⟨_, rfl⟩
          have hr4 : r3.data.toList = rest.data.toList.drop [u].length := by rw [hr3]
          have hr5 : r3.size ≤ t.size := by
            have e1 : r3.data.toList.length = r3.size := size_toList r3
            have e2 : rest.data.toList.length = rest.size := size_toList rest
            rw [hr4, List.length_drop] at e1
            omega
          rw [← hr3] at hcp
          rw [← hr4] at hgood
          have Hgood := Lib.hid hgood
          have Hcp := Lib.hid hcp
          clear hgood hcp hp hn h1 h2 hxs Hrd hle hr3 hr4
          gi_wp2_with fail
          refine ⟨trivial, CallsIn.inRound l (callsIn_wide.2 Hcp.out) |>.mono ?_⟩
          rintro e w5 ⟨rfl, rfl⟩
          gi_wp2_with fail
          refine ⟨rdT r1 r2 a b c q v r3, ⟨v, r3, ps2, rfl, Hps.out, Hgood.out, hr5⟩, ?_⟩
          exact (hO3.store 6 rfl 0 (.string r3)).tail
    case done =>
      rintro D3 xs W L' M rfl ⟨v, rest, ps, rfl, hps, hrd, hle⟩ hO
      have hnil : ps = [] := List.self_eq_append_right.1 hps
      subst hnil
      have hrd2 : rd (parts s.data.toList) t.data.toList (0, 0, 0) = some v := hrd
      have Hrd := Lib.hid hrd2
      clear hps hrd hrd2 hle
      have hTW := hT.frm hO.frm
      have x1 := (hO.cell1 (x := r1) (v := .int .i64 0) (t := 3) 0 rfl)
      have x2 := (hO.cell1 (x := r2) (v := .bool false) (t := 4) 1 rfl)
      obtain ⟨x1, y1⟩ := x1
      obtain ⟨x2, y2⟩ := x2
      have x3 := (hO.cell1 (x := a) (v := .int .i64 (v.1 : Nat)) (t := 3) 2 rfl).1
      have x4 := (hO.cell1 (x := b) (v := .int .i64 (v.2.1 : Nat)) (t := 3) 3 rfl).1
      have x5 := (hO.cell1 (x := c) (v := .int .i64 (v.2.2 : Nat)) (t := 3) 4 rfl).1
      have hnum := num_any (v.1 : Nat) (v.2.1 : Nat) (v.2.2 : Nat) W hTW
      have hend := fun n tt => rd_end hO n tt
      have Hend := Lib.hid hend
      have HO := Lib.hid hO
      clear hend hO
      have close : ∀ (n : Int) (tt : Bool) (d0 : Unit), True := fun _ _ _ => trivial
      obtain ⟨vb, hvb⟩ : ∃ vb, vb = vldB (v.1 : Nat) (v.2.1 : Nat) (v.2.2 : Nat) := ⟨_, rfl⟩
      unfold numR at hnum
      rw [← hvb] at hnum
      have Hvb := Lib.hid hvb
      clear hvb close
      cases vb
      · rw [if_neg (by simp)] at hnum
        have Hnum := Lib.hid hnum
        clear hnum
        go_wp2_with fail
        refine Hnum.out.mono ?_
        rintro e w7 ⟨rfl, rfl⟩
        go_wp2_with fail
        obtain ⟨z1, z2, hF⟩ := Hend.out 0 false
        have hK := hF.blk 0 rfl
        refine ⟨by simp, .inl ⟨D3, _, rfl, run_takeDeferred hK, ?_⟩⟩
        have f3 := (hF.putBlk 0 rfl (.deferred none)).tail
        refine ⟨_, read_results _ _ ⟨r1, 0, none⟩ ⟨r2, 0, none⟩ _ _ rfl rfl (cell_put hK z1) (cell_put hK z2) ⟨_, rfl⟩ (.inr rfl), .inl ⟨?_, rfl⟩, f3.frm⟩
        intro n hn
        obtain ⟨y, m, d, hc, -, h2, -⟩ := hn.rd
        rw [Hrd.out] at h2
        injection h2 with h2
        have := hc.1
        rw [h2] at Hvb
        rw [← Hvb.out] at this
        simp at this
      · rw [if_pos rfl] at hnum
        have Hnum := Lib.hid hnum
        have hfm := fun W' hT' => format_any s hs (num (v.1 : Nat) (v.2.1 : Nat) (v.2.2 : Nat)) W' hT'
        have Hfm := Lib.hid hfm
        have hciv : Civ (num (v.1 : Nat) (v.2.1 : Nat) (v.2.2 : Nat)) (v.1 : Nat) (v.2.1 : Nat) (v.2.2 : Nat) := ⟨Hvb.out.symm, rfl⟩
        clear hnum hfm
        generalize num (v.1 : Nat) (v.2.1 : Nat) (v.2.2 : Nat) = N at Hnum Hfm hciv
        have Hciv := Lib.hid hciv
        clear hciv
        go_wp2_with fail
        refine Hnum.out.mono ?_
        rintro e w7 ⟨rfl, rfl⟩
        go_wp2_with fail
        refine (Hfm.out W hTW).mono ?_
        rintro e w8 ⟨hf, f8⟩
        rcases hf with ⟨hno, rfl⟩ | ⟨-, y, m, d, hc, rfl⟩
        · have hin : inB N = true := in_iff.2 Hciv.out.bd
          rw [hin, ← Hr.out] at hno
          simp at hno
        · obtain ⟨e1, e2, e3⟩ := hc.uniq Hciv.out
          have e1' : y = v.1 := by omega
          have e2' : m = v.2.1 := by omega
          have e3' : d = v.2.2 := by omega
          have HO8 := Lib.hid (HO.out.still f8)
          have Hend8 := Lib.hid (fun n tt => rd_end HO8.out n tt)
          obtain ⟨x1, y1⟩ := HO8.out.cell1 (x := r1) (v := .int .i64 0) (t := 3) 0 rfl
          obtain ⟨x2, y2⟩ := HO8.out.cell1 (x := r2) (v := .bool false) (t := 4) 1 rfl
          have He : Hid (y = v.1 ∧ m = v.2.1 ∧ d = v.2.2) := ⟨e1', e2', e3'⟩
          clear e1 e2 e3 e1' e2' e3' f8
          unfold strV
          obtain ⟨X, hX⟩ : ∃ X : ByteArray, X = ⟨(fmtL y m d s.data.toList).toArray⟩ := ⟨_, rfl⟩
          have hXl : X.data.toList = fmtL y m d s.data.toList := by rw [hX]
          have HXl := Lib.hid hXl
          rw [← hX]
          clear hX hXl
          by_cases hXt : X = t
          · have hne : (X.toList == t.toList) = true := by rw [hXt]; simp
            have hne2 : (X.toList != t.toList) = false := by rw [hXt]; simp
            have HXt := Lib.hid hXt
            clear hXt
            go_wp2_with fail
            obtain ⟨z1, z2, hF⟩ := Hend8.out N true
            have hK := hF.blk 0 rfl
            refine ⟨by simp, .inl ⟨D3, _, rfl, run_takeDeferred hK, ?_⟩⟩
            have f3 := (hF.putBlk 0 rfl (.deferred none)).tail
            refine ⟨_, read_results _ _ ⟨r1, 0, none⟩ ⟨r2, 0, none⟩ _ _ rfl rfl (cell_put hK z1) (cell_put hK z2) ⟨_, rfl⟩ (.inl rfl), .inr ⟨N, ⟨Hr.out.symm, y, m, d, hc, ?_⟩, rfl⟩, f3.frm⟩
            rw [← HXl.out, HXt.out]
          · have hn0 : ¬ X.toList = t.toList := fun e => hXt (WideShapes.bytes_inj (by rw [← toList_data, ← toList_data]; exact e))
            have hne : (X.toList == t.toList) = false := beq_eq_false_iff_ne.2 hn0
            have hne2 : (X.toList != t.toList) = true := bne_iff_ne.2 hn0
            clear hn0
            have HXt := Lib.hid hXt
            clear hXt
            go_wp2_with fail
            obtain ⟨z1, z2, hF⟩ := Hend8.out 0 false
            have hK := hF.blk 0 rfl
            refine ⟨by simp, .inl ⟨D3, _, rfl, run_takeDeferred hK, ?_⟩⟩
            have f3 := (hF.putBlk 0 rfl (.deferred none)).tail
            refine ⟨_, read_results _ _ ⟨r1, 0, none⟩ ⟨r2, 0, none⟩ _ _ rfl rfl (cell_put hK z1) (cell_put hK z2) ⟨_, rfl⟩ (.inr rfl), .inl ⟨?_, rfl⟩, f3.frm⟩
            intro n hn
            obtain ⟨y', m', d', -, htx, h2, -⟩ := hn.rd
            rw [Hrd.out] at h2
            injection h2 with h2
            rw [h2] at He
            obtain ⟨q1, q2, q3⟩ := He.out
            dsimp only at q1 q2 q3
            refine HXt.out (WideShapes.bytes_inj ?_)
            rw [HXl.out, q1, q2, q3, htx]
    case stop =>
      rintro D3 c3 pre W L' M _ ⟨rfl, hno, v, rest, rfl⟩ hO
      have hneg : ∀ n, ¬ IsDay s.data.toList t.data.toList n := by
        intro n hn
        obtain ⟨y, m, d, -, -, h2, -⟩ := hn.rd
        rw [hno] at h2
        simp at h2
      have z1 := (hO.cell1 (x := r1) (v := .int .i64 0) (t := 3) 0 rfl).1
      have z2 := (hO.cell1 (x := r2) (v := .bool false) (t := 4) 1 rfl).1
      have hF := rd_tail hO
      have hK := hF.blk 0 rfl
      gi_wp2
      refine ⟨by simp, .inl ⟨D3, _, rfl, run_takeDeferred hK, ?_⟩⟩
      have f3 := (hF.putBlk 0 rfl (.deferred none)).tail
      exact ⟨_, read_results _ _ ⟨r1, 0, none⟩ ⟨r2, 0, none⟩ _ _ rfl rfl (cell_put hK z1) (cell_put hK z2) ⟨_, rfl⟩ (.inr rfl), .inl ⟨hneg, rfl⟩, f3.frm⟩
end Go.Proofs.YtmpfgdpicbpedaaDoor
