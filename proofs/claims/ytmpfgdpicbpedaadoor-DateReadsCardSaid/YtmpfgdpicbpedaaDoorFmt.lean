/-
  date.Format: what its code does. Conditions: the layout is within reach; the package variables read as the text lays them.
-/
import Derived.Test.YtmpfgdpicbpedaaDoorRight
import Derived.Test.YtmpfgdpicbpedaaDoorPut
namespace Go.Proofs.YtmpfgdpicbpedaaDoor
open Go.RowKit Go.Shelf
attribute [local go_sem] Oper.semAt_some

/-- What Format answers. -/
def fmtO (n : Int) (l : List UInt8) (e : Ending) : Prop :=
  ((inB n && rightB l) = false ∧ e = .returned (.tuple #[.string ⟨#[]⟩, .bool false])) ∨
  (rightB l = true ∧ ∃ y m d : Nat, Civ n y m d ∧ e = .returned (.tuple #[strV (fmtL y m d l), .bool true]))

theorem Civ.nat {n y m d : Int} (h : Civ n y m d) : ∃ a b c : Nat, y = a ∧ m = b ∧ d = c ∧ a ≤ 9999 ∧ b ≤ 12 ∧ c ≤ 31 := by
  have h2 := vld_iff.1 h.1
  have h3 := dim_bd y m
  exact ⟨y.toNat, m.toNat, d.toNat, by omega, by omega, by omega, by omega, by omega, by omega⟩

theorem fmt_len {y m d : Nat} (hy : y ≤ 9999) (hm : m ≤ 12) (hd : d ≤ 31) (t : List UInt8) (ht : Form t) : (fmtP y m d t).length ≤ 20000 := by
  have h4 := ht.pos
  unfold fmtP
  have p1 := pad_len _ y 4 (Nat.le_refl _)
  have p2 := pad_len _ m 2 (Nat.le_refl _)
  have p3 := pad_len _ m 1 (Nat.le_refl _)
  have p4 := pad_len _ d 2 (Nat.le_refl _)
  have p5 := pad_len _ d 1 (Nat.le_refl _)
  repeat' split
  all_goals omega
theorem flat_len {y m d : Nat} (hy : y ≤ 9999) (hm : m ≤ 12) (hd : d ≤ 31) : ∀ (ps : List (List UInt8)), (∀ t ∈ ps, Form t) → (ps.flatMap (fmtP y m d)).length ≤ ps.length * 20000
  | [], _ => by simp
  | t :: ps, h => by
    have h1 := fmt_len hy hm hd t (h t (by simp))
    have h2 := flat_len hy hm hd ps (fun x hx => h x (by simp [hx]))
    simp only [List.flatMap_cons, List.length_append, List.length_cons]
    omega
theorem rightB_size {l : List UInt8} (h : rightB l = true) : l.length ≤ 40 := by
  unfold rightB at h
  simp only [Bool.and_eq_true, decide_eq_true_eq] at h
  exact h.1.1

def fL (o f y m d : Nat) (l : List UInt8) : List Thing := [outT o y m d l, cellT f #[.func (.func 44) #[.pointer (some ⟨o, 0, none⟩)] #[]] 69]
theorem fmt_results (tmps : Array Value) (w : World) (a b : Value) (h1 : tmps[4]?.getD undef = a) (h2 : tmps[5]?.getD undef = b) : (results Tryd.f22 tmps).run Tryd.prog w = .ok (.tuple #[a, b]) w := by
  simp [results, Tryd.results22, h1, h2]

/-- A thing of which nothing is said any more. -/
def noT : Thing where
  P _ F := F = fun _ => False
  stable _ _ _ _ h _ _ := h
  lt _ F k h hk := by rw [h] at hk; exact hk.elim

theorem own_string {w0 w : World} {L : List Thing} (h : Own w0 L w) {o : Nat} {y m d : Int} {l : List UInt8} (i : Nat) (hi : L[i]? = some (outT o y m d l)) :
    Calls Tryd.prog 46 #[.pointer (some ⟨o, 3, none⟩)] w fun e w' => e = .returned (strV l) ∧ Own w0 (L.set i noT) w' := by
  obtain ⟨F, ⟨p, v, hp, ho, hb, hne, rfl⟩, _, ht⟩ := h.turn hi
  refine (string_any ⟨ho, hb, hne⟩).mono ?_
  rintro e w' ⟨rfl, hf⟩
  exact ⟨rfl, ht noT (fun _ => False) w' rfl (hf.mono fun k hk => .inr hk) (fun k hk => hk.elim)⟩

set_option maxRecDepth 100000 in
set_option maxHeartbeats 8000000 in
theorem format_any (s : ByteArray) (hs : s.size ≤ 9223372036854775807) (n : Int) (w : World) (hT : Tabs w) : Calls Tryd.prog 22 #[.string s, .int .i64 n] w fun e w' => fmtO n s.data.toList e ∧ Frm (fun _ => False) w w' := by
  refine callsIn_wide.1 (callsIn_of_wp_marks (n := 5) Tryd.func22 rfl trivial (wpIn_wide.2 ?_) rfl)
  simp only [Tryd.ntmps22, List.size_toArray, List.length_cons, List.length_nil, Nat.reduceAdd, Nat.reduceSub, Array.replicate_succ, Array.replicate_zero, List.push_toArray, List.append_toArray, List.nil_append, List.cons_append]
  go_wp2_with fail
  refine (civil_any n w hT).mono ?_
  rintro e w' ⟨hc, rfl⟩
  rcases hc with ⟨hb, rfl⟩ | ⟨y, m, d, hciv, rfl⟩
  · have Hb := Lib.hid hb
    clear hb
    go_wp2_with fail
    exact ⟨_, fmt_results _ _ (.string ⟨#[]⟩) (.bool false) rfl rfl, .inl ⟨by rw [Hb.out]; rfl, rfl⟩, Frm.refl _ _⟩
  · have Hciv := Lib.hid hciv
    clear hciv
    go_wp2_with fail
    refine (dright_any s hs w).mono ?_
    rintro e w1 ⟨rfl, f1⟩
    obtain ⟨r, hr⟩ : ∃ r, r = rightB s.data.toList := ⟨_, rfl⟩
    rw [← hr]
    have Hr := Lib.hid hr
    clear hr
    cases r
    · go_wp2_with fail
      exact ⟨_, fmt_results _ _ (.string ⟨#[]⟩) (.bool false) rfl rfl, .inl ⟨by rw [← Hr.out, Bool.and_false], rfl⟩, f1⟩
    · obtain ⟨y', m', d', rfl, rfl, rfl, hy, hm, hd⟩ := Hciv.out.nat
      have hsz : s.size ≤ 40 := by rw [← size_toList]; exact rightB_size Hr.out.symm
      have h1 := (((Own.start w).still f1).add (T := outT w1.heap.size y' m' d' []) (F' := fun k => k = w1.heap.size) (w' := w1.alloc (.cells #[.int .i64 y', .int .i64 m', .int .i64 d', .pointer none, .slice none 0 0] 68))
        ⟨_, _, .inl rfl, heap_alloc_new w1 _, Bts.nil _ _, Blk.nil, funext fun k => by simp [Blk, Value.ownBlock]⟩ ((Frm.refl _ _).alloc _) (fun k hk => Nat.le_of_eq hk.symm)).box #[.func (.func 44) #[.pointer (some ⟨w1.heap.size, 0, none⟩)] #[]] 69
      simp only [World.size_alloc] at h1
      have hsf := fun (a : Addr) (p : Addr) (w : World) => run_store Tryd.prog w a (.func (.func 44) #[.pointer (some p)] #[]) .plain rfl
      go_wp2_with fail
      obtain ⟨W3, hW3⟩ : ∃ W, W = ((w1.alloc (.cells #[.int .i64 y', .int .i64 m', .int .i64 d', .pointer none, .slice none 0 0] 68)).alloc (.cells #[.func (.func 44) #[.pointer (some ⟨w1.heap.size, 0, none⟩)] #[]] 69)) := ⟨_, rfl⟩
      obtain ⟨f, hf⟩ : ∃ b, b = w1.heap.size + 1 := ⟨_, rfl⟩
      obtain ⟨o, ho⟩ : ∃ b, b = w1.heap.size := ⟨_, rfl⟩
      rw [← hf, ← ho] at h1 ⊢
      rw [← ho] at hW3
      rw [← hW3] at h1 ⊢
      clear hW3 hf ho
      refine (tokens_any s W3).mono ?_
      rintro e w6 ⟨rfl, rfl⟩
      have h2 := h1.box #[.string s] 9
      obtain ⟨cl, hcl⟩ : ∃ b, b = W3.heap.size := ⟨_, rfl⟩
      obtain ⟨W6, hW6⟩ : ∃ W, W = W3.alloc (.cells #[.string s] 9) := ⟨_, rfl⟩
      rw [← hcl, ← hW6] at h2 ⊢
      have h3 : Own w (fL o f y' m' d' [] ++ [cellT cl #[.string s] 9]) W6 := h2
      clear hcl hW6 h1 h2
      go_wp2_with fail
      refine wpIn_wide.1 (wpIn_range_box (F := Fence.wide) (n := 5) rfl (by decide) (gf := 58) (lb := #[.pointer (some ⟨cl, 0, none⟩)]) rfl trivial (enters_of Tryd.func58 (by kernel_rfl) rfl)
        (tokens_iter 4 cl (by decide) s (by omega)) (fun _ => rfl) w
        (fun pre X => X = fL o f y' m' d' (pre.flatMap (fmtP y' m' d')))
        (fun _ _ _ => False)
        (fL o f y' m' d' []) h3 rfl ?round ?done ?stop)
      case round =>
        rintro l pre x W L' M rfl hpre hO
        dsimp only [encT]
        have hx : Form x := by
          obtain ⟨t, ht⟩ := hpre
          exact parts_form s.data.toList x (by rw [← ht]; simp)
        have hpl : (pre.flatMap (fmtP y' m' d')).length ≤ 1000000 := by
          obtain ⟨t, ht⟩ := hpre
          have h1 := flat_len hy hm hd pre (fun z hz => parts_form s.data.toList z (by rw [← ht]; simp [hz]))
          have h2 := parts_len s.data.toList
          rw [← ht, size_toList] at h2
          simp only [List.length_append, List.length_cons, List.length_nil] at h2
          have : pre.length ≤ 40 := by omega
          omega
        unfold tokV strV
        obtain ⟨xs, hxs⟩ : ∃ xs : ByteArray, (⟨x.toArray⟩ : ByteArray) = xs := ⟨_, rfl⟩
        rw [hxs]
        have h5 := Own.swap _ _ (hO.box #[.string xs, .bool (isF x)] 74)
        gi_wp2
        obtain ⟨tb, htb⟩ : ∃ b, b = W.heap.size := ⟨_, rfl⟩
        rw [← htb] at h5 ⊢
        refine ⟨cellT tb #[.string xs, .bool (isF x)] 74 :: fL o f y' m' d' (pre.flatMap (fmtP y' m' d')), h5, ?_⟩
        clear hO h5 htb
        intro M2 W2 hO2
        obtain ⟨t0, t1, -, -⟩ := cells2 (hO2.obj (x := tb) (cs := #[.string xs, .bool (isF x)]) (t := 74) 0 rfl)
        obtain ⟨x1, y1⟩ := hO2.cell1 (x := f) (v := .func (.func 44) #[.pointer (some ⟨o, 0, none⟩)] #[]) (t := 69) 2 rfl
        have hp := own_put hO2 hT (o := o) (y := y') (m := m') (d := d') (l := pre.flatMap (fmtP y' m' d')) 1 rfl (by omega) (by omega) (by omega) hpl x hx
        unfold tokV strV at hp
        rw [hxs] at hp
        have Hp := Lib.hid hp
        clear hp hxs hpl
        gi_wp2_with fail
        refine ⟨trivial, CallsIn.inRound l (callsIn_wide.2 Hp.out) |>.mono ?_⟩
        rintro e w5 ⟨rfl, h5⟩
        gi_wp2_with fail
        refine ⟨fL o f y' m' d' (pre.flatMap (fmtP y' m' d') ++ fmtP y' m' d' x), ?_, h5.tail⟩
        show _ = fL o f y' m' d' ((pre ++ [x]).flatMap (fmtP y' m' d'))
        rw [List.flatMap_append]
        simp [fL]
      case done =>
        rintro D3 xs W L' M rfl rfl hO
        have h9 := own_string (L := fL o f y' m' d' ((parts s.data.toList).flatMap (fmtP y' m' d')) ++ (M ++ [blockT D3 (.deferred (some []))])) hO (o := o) (y := y') (m := m') (d := d') (l := (parts s.data.toList).flatMap (fmtP y' m' d')) 0 rfl
        have H9 := Lib.hid h9
        have hres : strV ((parts s.data.toList).flatMap (fmtP y' m' d')) = strV (fmtL y' m' d' s.data.toList) := rfl
        have Hres := Lib.hid hres
        clear h9 hres
        go_wp2_with fail
        refine H9.out.mono ?_
        rintro e w7 ⟨rfl, h7⟩
        rw [Hres.out]
        have hF : Own w (blockT D3 (.deferred (some [])) :: []) w7 := by
          refine h7.reidx (fun _ => 2 + M.length) (fun j U hj => ?_) (fun i j hi hj _ => by simp at hi hj; omega)
          cases j with
          | zero =>
            have hU : blockT D3 (.deferred (some [])) = U := by simpa using hj
            subst hU
            rw [show 2 + M.length = M.length + 1 + 1 by omega]
            show (M ++ [blockT D3 (.deferred (some []))])[M.length]? = _
            rw [List.getElem?_append_right (Nat.le_refl _), Nat.sub_self]
            rfl
          | succ j => simp at hj
        have hK := hF.blk 0 rfl
        have f3 := (hF.putBlk 0 rfl (.deferred none)).tail.frm
        clear h7 hF H9 hO
        unfold strV at *
        go_wp2_with fail
        refine ⟨by simp, .inl ⟨D3, _, rfl, run_takeDeferred hK, ?_⟩⟩
        exact ⟨_, fmt_results _ _ _ _ rfl rfl, .inr ⟨Hr.out.symm, y', m', d', Hciv.out, rfl⟩, f3⟩
      case stop =>
        rintro D3 c3 pre W L' M _ h _
        exact h.elim
end Go.Proofs.YtmpfgdpicbpedaaDoor
