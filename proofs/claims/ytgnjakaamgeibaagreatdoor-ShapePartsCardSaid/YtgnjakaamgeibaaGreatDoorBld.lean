/-
  The builder of strings, among the things that a call owns. Conditions: the text is within reach.
-/
import Derived.Test.YtgnjakaamgeibaaGreatDoorPcs
import Derived.Lib.UnsafeStr
namespace Go.Proofs.YtgnjakaamgeibaaGreatDoor
open Go.RowKit Go.Shelf
attribute [local go_sem] Oper.semAt_some
def strV (r : List UInt8) : Value := .string ⟨r.toArray⟩
def bldAt (w : World) (o : Nat) (p v : Value) (l : List UInt8) : Prop := w.heap[o]? = some (.cells #[p, v] 73 (0, 0)) ∧ Bts w 5 v l ∧ ¬ Blk v o
/-- A builder that holds a text. -/
def bldT (o : Nat) (l : List UInt8) : Thing where
  P w F := ∃ p v, (p = .pointer none ∨ p = .pointer (some ⟨o, 0, none⟩)) ∧ bldAt w o p v l ∧ F = fun k => k = o ∨ Blk v k
  stable w w' F G h hf hF := by
    obtain ⟨p, v, hp, ⟨ho, hb, hne⟩, rfl⟩ := h
    exact ⟨p, v, hp, ⟨hf.heap ho (hF o (.inl rfl)), hb.frm hf fun k hk => hF k (.inr hk), hne⟩, rfl⟩
  lt w F k h hk := by
    obtain ⟨p, v, hp, ⟨ho, hb, hne⟩, rfl⟩ := h
    rcases hk with rfl | hk
    · exact (Array.getElem?_eq_some_iff.1 ho).1
    · exact hb.lt hk
theorem bld_cells {w : World} {o : Nat} {p v : Value} (ho : w.heap[o]? = some (.cells #[p, v] 73 (0, 0))) :
    w.cell? ⟨o, 0, none⟩ = some p ∧ w.cell? ⟨o, 1, none⟩ = some v ∧ w.frozen? ⟨o, 0, none⟩ = false ∧ w.frozen? ⟨o, 1, none⟩ = false ∧ w.shape? o = some (73, 2) := by
  refine ⟨?_, ?_, frozen_of_row w o 0 _ _ ho, frozen_of_row w o 1 _ _ ho, by simp [World.shape?, ho]⟩
  all_goals (rw [cell_of_row w o _ _ _ _ ho]; rfl)
set_option maxRecDepth 100000 in
set_option maxHeartbeats 1000000 in
theorem copyCheck_used (o : Nat) (w : World) (h0 : w.cell? ⟨o, 0, none⟩ = some (.pointer (some ⟨o, 0, none⟩))) :
    Calls Tryz.prog 73 #[.pointer (some ⟨o, 0, none⟩)] w fun e w' => e = .returned (.tuple #[]) ∧ w' = w := by
  obtain ⟨j, hj, hjs⟩ := Option.map_eq_some_iff.1 (show (Tryz.prog.info? 73).map (·.size) = some 2 by kernel_rfl)
  go_enter Tryz.func73, Tryz.ntmps73
  go_wp2
  rw [Lib.run_neq_ptr_same w _ Tryz.underlying71 hj]
  go_wp2
  go_end0
  exact ⟨rfl, rfl⟩
theorem lies_builder : liesAt Tryz.prog Tryz.prog.depth 73 (2 / Tryz.prog.cellsOf 73) 0 73 1 = true := by kernel_rfl
set_option maxRecDepth 100000 in
set_option maxHeartbeats 1000000 in
theorem copyCheck_fresh (o : Nat) (w : World) (h0 : w.cell? ⟨o, 0, none⟩ = some (.pointer none)) (hsh : w.shape? o = some (73, 2)) (hfz : w.frozen? ⟨o, 0, none⟩ = false) :
    Calls Tryz.prog 73 #[.pointer (some ⟨o, 0, none⟩)] w fun e w' => e = .returned (.tuple #[]) ∧ w' = w.setCell ⟨o, 0, none⟩ (.pointer (some ⟨o, 0, none⟩)) := by
  obtain ⟨j, hj, hjs⟩ := Option.map_eq_some_iff.1 (show (Tryz.prog.info? 73).map (·.size) = some 2 by kernel_rfl)
  go_enter Tryz.func73, Tryz.ntmps73
  go_wp2
  rw [Lib.run_to_unsafe w ⟨o, 0, none⟩ Tryz.underlying71 Tryz.underlying101 hj (by rw [hjs]; decide) hsh (show (0 : Nat) < 2 by omega)]
  simp only [Result.andThen]
  rw [Oper.upon_value]
  go_wp2
  rw [run_callFunc_extern Tryz.func87 (by kernel_rfl) (by kernel_rfl) (by kernel_rfl) (e := Extern.AbiNoEscape.same) (by kernel_rfl)]
  rw [Lib.run_noEscape]
  simp only [Result.andThen]
  rw [Oper.upon_value]
  go_wp2
  rw [Lib.run_from_unsafe w ⟨o, 0, none⟩ Tryz.underlying101 Tryz.underlying71 hj hsh lies_builder]
  simp only [Result.andThen]
  rw [Oper.upon_value]
  go_wp2
  go_end0
  exact ⟨rfl, rfl⟩
theorem copyCheck_any {o : Nat} {p v : Value} {l : List UInt8} {w : World} (hp : p = .pointer none ∨ p = .pointer (some ⟨o, 0, none⟩)) (h : bldAt w o p v l) :
    Calls Tryz.prog 73 #[.pointer (some ⟨o, 0, none⟩)] w fun e w' => e = .returned (.tuple #[]) ∧ bldAt w' o (.pointer (some ⟨o, 0, none⟩)) v l ∧ Frm (fun k => k = o) w w' := by
  obtain ⟨ho, hb, hne⟩ := h
  obtain ⟨c3, -, f3, -, sh⟩ := bld_cells ho
  rcases hp with rfl | rfl
  · refine (copyCheck_fresh o w c3 sh f3).mono ?_
    rintro e w' ⟨rfl, rfl⟩
    have hf : Frm (fun k => k = o) w (w.setCell ⟨o, 0, none⟩ (.pointer (some ⟨o, 0, none⟩))) := Frm.setCell (F := fun k => k = o) (Frm.refl _ _) (p := ⟨o, 0, none⟩) (.inl rfl) _
    exact ⟨rfl, ⟨by rw [heap_set ho]; rfl, hb.frm hf fun k hk e => hne (e ▸ hk), hne⟩, hf⟩
  · refine (copyCheck_used o w c3).mono ?_
    rintro e w' ⟨rfl, rfl⟩
    exact ⟨rfl, ⟨ho, hb, hne⟩, Frm.refl _ _⟩
theorem u8_info : ∃ i0 : TypeInfo, Tryz.prog.info? 5 = some i0 ∧ i0.zero = some (.int .u8 0) ∧ i0.size = 1 ∧ i0.bytes = 1 := by
  obtain ⟨i0, hi, hz0, hz1, hz2⟩ := info_parts (show (Tryz.prog.info? 5).map (fun i => (i.zero, i.size, i.bytes)) = some (some (.int .u8 0), 1, 1) by kernel_rfl)
  exact ⟨i0, hi, hz0, hz1, hz2⟩
theorem Bts.form {w : World} {e : TypeId} {v : Value} {l : List UInt8} (h : Bts w e v l) : ∃ ao n cap, v = .slice ao n cap := by
  rcases h.2 with ⟨hv, _⟩ | ⟨g, cap, cur, hv, _⟩
  · exact ⟨_, _, _, hv⟩
  · exact ⟨_, _, _, hv⟩
set_option maxRecDepth 100000 in
set_option maxHeartbeats 2000000 in
theorem writeByte_any {o : Nat} {p v : Value} {l : List UInt8} {w : World} (hp : p = .pointer none ∨ p = .pointer (some ⟨o, 0, none⟩)) (h : bldAt w o p v l) (c : UInt8) (hs : l.length + 1 ≤ 1099511627776) :
    Calls Tryz.prog 62 #[.pointer (some ⟨o, 0, none⟩), .int .u8 c.toNat] w fun e w' => e = .returned .nilIface ∧ ∃ v', bldAt w' o (.pointer (some ⟨o, 0, none⟩)) v' (l ++ [c]) ∧ Frm (fun k => k = o ∨ Blk v k) w w' ∧ (∀ k, Blk v' k → Blk v k ∨ w.heap.size ≤ k) := by
  obtain ⟨i0, hi, hz0, hz1, hz2⟩ := u8_info
  go_enter Tryz.func62, Tryz.ntmps62
  go_wp2_with fail
  refine (copyCheck_any hp h).mono ?_
  rintro e w1 ⟨rfl, ⟨ho1, hb1, hne1⟩, hf1⟩
  obtain ⟨c3, c4, -, f4, -⟩ := bld_cells ho1
  have hlt : o < w1.heap.size := (Array.getElem?_eq_some_iff.1 ho1).1
  have hbA : Bts (w1.alloc (.cells #[.int .u8 c.toNat] 5)) 5 v l := hb1.frm (F := fun _ => False) ((Frm.refl _ _).alloc _) (fun _ _ h => h)
  go_wp2_with (at_builtin; refine wpList_append_one rfl _ _ 55 rfl 5 i0 (.int .u8 0) 1 1 Tryz.underlying55 hi hz0 hz1 hz2 rfl (by decide) _ _ _ rfl hbA ⟨w1.heap.size, 0, none⟩ 1 [.int .u8 c.toNat] rfl rfl (new_cells w1 #[.int .u8 c.toNat] 5 w1.heap.size rfl) (by intro u hu; rw [List.mem_singleton.1 hu]; rfl) (by omega) (by unfold maxLen; omega) ?_)
  intro g cap w2 hown hfrm hgg
  have hbn : Bts w2 5 (.slice (some ⟨g, 0, none⟩) (l.length + 1) cap) (l ++ [c]) := by
    unfold Bts
    rw [List.length_append, List.map_append]
    exact hown
  have hne3 : g ≠ o := by
    rintro rfl
    rcases hgg with e | e
    · exact hne1 e
    · try rw [World.size_alloc] at e
      omega
  have hb2 : w2.heap[o]? = some (.cells #[.pointer (some ⟨o, 0, none⟩), v] 73 (0, 0)) := hfrm.heap (((Frm.refl (fun _ => False) w1).alloc _).heap ho1 (fun h => h)) hne1
  obtain ⟨d3, d4, -, g4, -⟩ := bld_cells hb2
  have hne2 : ¬ Blk (.slice (some ⟨g, 0, none⟩) (l.length + 1) cap) o := fun e => hne3 (Blk.some.1 e).symm
  have hfg : Frm (fun k => k = o ∨ Blk v k) w1 w2 := ((Frm.refl _ _).alloc _).trans (hfrm.mono fun k hk => .inr hk)
  have hfs := hfg.setCell (p := ⟨o, 1, none⟩) (.inl (.inl rfl)) (.slice (some ⟨g, 0, none⟩) (l.length + 1) cap)
  have Hbn := Lib.hid hbn
  have Hb2 := Lib.hid hb2
  clear hown hbn hfg hfrm hbA hb2
  go_wp2_with fail
  go_ret
  refine ⟨rfl, .slice (some ⟨g, 0, none⟩) (l.length + 1) cap, ⟨by rw [heap_set Hb2.out]; rfl, ?_, hne2⟩, (hf1.mono fun k hk => .inl hk).trans hfs, fun k hk => ?_⟩
  · exact Hbn.out.frm (F := fun k => k = o) (Frm.setCell (F := fun k => k = o) (Frm.refl _ _) (p := ⟨o, 1, none⟩) (.inl rfl) _) fun k hk e => hne2 (e ▸ hk)
  · obtain rfl := Blk.some.1 hk
    rcases hgg with e | e
    · exact .inl e
    · try rw [World.size_alloc] at e
      have := hf1.size
      exact .inr (by omega)
/-- An append of a string, and where what it gives lies. -/
theorem wpList_append_str {P : Program} {w : World} {ops : Array Oper} {rest : List Oper} {o : Oper} {a : Act} {Q : Exit → Act → World → Prop} (hgd : o.guard = none) (sl x : Operand) (t u : TypeId)
    (ho : o.op = .call { callee := .builtin .append, args := #[sl, x], argTypes := #[t, u] })
    (e : TypeId) (i : TypeInfo) (ht : P.underlying t = some (.slice e)) (hu : P.underlying u = some .string) (hi : P.info? e = some i) (hz : i.zero = some (.int .u8 0)) (hsize : i.size = 1) (hby : i.bytes = 1)
    (v : Value) (l : List UInt8) (hs : a.eval sl = v) (hown : Bts w e v l) (s : ByteArray) (hx : a.eval x = .string s) (hb : l.length + s.size ≤ 1099511627776)
    (h : ∀ v' w', Bts w' e v' (l ++ s.data.toList) → w.grownBy w' v.ownBlock → (∀ k, Blk v' k → Blk v k ∨ w.heap.size ≤ k) → wpList P ops Q rest (a.put o.dst v') w') : wpList P ops Q (o :: rest) a w := by
  refine wpList_plain hgd fun K hK => ?_
  have h63 : l.length + s.size ≤ maxLen := by unfold maxLen; omega
  obtain ⟨v', w', hr, h2, h3, -⟩ := Lib.run_append_own_string (P := P) w 0 t u o.type e i ht hu hi hz hsize hby v l.length _ hown s h63 (by omega) (Nat.zero_le _)
  have hw : ∀ k, Blk v' k → Blk v k ∨ w.heap.size ≤ k := by
    intro k hk
    rcases hown.2 with ⟨rfl, hn⟩ | ⟨g, cap, cur, rfl, hbg, hg, hnc, hcm, hcs, htake⟩
    · have ho' : w.ownsRow w.heap.size e 1 (.slice none 0 0) l.length (l.map bv) := ⟨hown.1, .inl ⟨rfl, hn⟩⟩
      obtain ⟨v2, w2, hr2, h22, -, -⟩ := Lib.run_append_own_string (P := P) w w.heap.size t u o.type e i ht hu hi hz hsize hby _ l.length _ ho' s h63 (by omega) (Nat.le_refl _)
      rw [hr] at hr2
      injection hr2 with e1 e2
      subst e1; subst e2
      exact .inr (h22.lt k hk).1
    · by_cases hroom : l.length + s.size ≤ cap
      · have hr2 := Lib.run_append_room_string (P := P) w t u o.type e i ht hu hi hsize g l.length cap cur hg s hroom (by omega)
        rw [hr] at hr2
        injection hr2 with e1 e2
        subst e1
        exact .inl (Blk.some.2 (Blk.some.1 hk))
      · have hr2 := Lib.run_append_grow_string (P := P) w t u o.type e i (.int .u8 0) ht hu hi hz ⟨g, 0, none⟩ l.length cap (l.map bv) (by rw [hsize]; simp) (hown.cells (g := g) rfl) s (by omega) (by unfold maxLen at h63; omega) (by rw [hby]; exact growslice_fits (by omega) (by omega))
        rw [hr] at hr2
        injection hr2 with e1 e2
        subst e1
        exact .inr (Nat.le_of_eq (Blk.some.1 hk).symm)
  unfold Oper.wp execOp
  simp only [ho, resolve, invoke, builtin, Sem.run_bind, Sem.run_pure, Result.andThen_ok, List.map_toArray, List.map_cons, List.map_nil, hs, hx, hr]
  refine hK _ _ (h v' w' ?_ h3 hw)
  unfold Bts
  rw [List.length_append, size_toList, List.map_append]
  exact h2
set_option maxRecDepth 100000 in
set_option maxHeartbeats 2000000 in
theorem writeString_any {o : Nat} {p v : Value} {l : List UInt8} {w : World} (hp : p = .pointer none ∨ p = .pointer (some ⟨o, 0, none⟩)) (h : bldAt w o p v l) (s : ByteArray) (hs : l.length + s.size ≤ 1099511627776) :
    Calls Tryz.prog 61 #[.pointer (some ⟨o, 0, none⟩), .string s] w fun e w' => e = .returned (.tuple #[.int .i64 s.size, .nilIface]) ∧ ∃ v', bldAt w' o (.pointer (some ⟨o, 0, none⟩)) v' (l ++ s.data.toList) ∧ Frm (fun k => k = o ∨ Blk v k) w w' ∧ (∀ k, Blk v' k → Blk v k ∨ w.heap.size ≤ k) := by
  obtain ⟨i0, hi, hz0, hz1, hz2⟩ := u8_info
  go_enter Tryz.func61, Tryz.ntmps61
  go_wp2_with fail
  refine (copyCheck_any hp h).mono ?_
  rintro e w1 ⟨rfl, ⟨ho1, hb1, hne1⟩, hf1⟩
  obtain ⟨c3, c4, -, f4, -⟩ := bld_cells ho1
  go_wp2_with (at_builtin; refine wpList_append_str rfl _ _ 55 9 rfl 5 i0 Tryz.underlying55 Tryz.underlying9 hi hz0 hz1 hz2 _ _ rfl hb1 s rfl hs ?_)
  intro v' w2 hbn hgrow hsub
  have hlt : o < w1.heap.size := (Array.getElem?_eq_some_iff.1 ho1).1
  have hb2 : w2.heap[o]? = some (.cells #[.pointer (some ⟨o, 0, none⟩), v] 73 (0, 0)) := by
    rw [hgrow.block o hlt (fun e => hne1 e.symm)]
    exact ho1
  obtain ⟨d3, d4, -, g4, -⟩ := bld_cells hb2
  obtain ⟨ao, n', cap, rfl⟩ := hbn.form
  go_wp2
  go_ret2
  have hne2 : ¬ Blk (.slice ao n' cap) o := fun e => (hsub o e).elim hne1 (fun hh => absurd hlt (Nat.not_lt.2 hh))
  have hfg : Frm (fun k => k = o ∨ Blk v k) w1 w2 := Frm.of_grown hgrow fun k hk => .inr hk
  have hfs := hfg.setCell (p := ⟨o, 1, none⟩) (.inl (.inl rfl)) (.slice ao n' cap)
  refine ⟨rfl, .slice ao n' cap, ⟨by rw [heap_set hb2]; rfl, ?_, hne2⟩, (hf1.mono fun k hk => .inl hk).trans hfs, fun k hk => (hsub k hk).imp_right fun hh => Nat.le_trans hf1.size hh⟩
  exact hbn.frm (F := fun k => k = o) (Frm.setCell (F := fun k => k = o) (Frm.refl _ _) (p := ⟨o, 1, none⟩) (.inl rfl) _) fun k hk e => hne2 (e ▸ hk)
theorem own_byte {w0 w : World} {L : List Thing} (h : Own w0 L w) {o : Nat} {l : List UInt8} (i : Nat) (hi : L[i]? = some (bldT o l)) (c : UInt8) (hs : l.length + 1 ≤ 1099511627776) :
    Calls Tryz.prog 62 #[.pointer (some ⟨o, 0, none⟩), .int .u8 c.toNat] w fun e w' => e = .returned .nilIface ∧ Own w0 (L.set i (bldT o (l ++ [c]))) w' := by
  obtain ⟨F, ⟨p, v, hp, hb, rfl⟩, _, ht⟩ := h.turn hi
  refine (writeByte_any hp hb c hs).mono ?_
  rintro e w' ⟨rfl, v', hb', hf, hs'⟩
  refine ⟨rfl, ht _ _ w' ⟨_, v', .inr rfl, hb', rfl⟩ hf ?_⟩
  rintro k (rfl | hk)
  · exact .inl (.inl rfl)
  · exact (hs' k hk).imp_left .inr
theorem own_text {w0 w : World} {L : List Thing} (h : Own w0 L w) {o : Nat} {l : List UInt8} (i : Nat) (hi : L[i]? = some (bldT o l)) (s : ByteArray) (hs : l.length + s.size ≤ 1099511627776) :
    Calls Tryz.prog 61 #[.pointer (some ⟨o, 0, none⟩), .string s] w fun e w' => e = .returned (.tuple #[.int .i64 s.size, .nilIface]) ∧ Own w0 (L.set i (bldT o (l ++ s.data.toList))) w' := by
  obtain ⟨F, ⟨p, v, hp, hb, rfl⟩, _, ht⟩ := h.turn hi
  refine (writeString_any hp hb s hs).mono ?_
  rintro e w' ⟨rfl, v', hb', hf, hs'⟩
  refine ⟨rfl, ht _ _ w' ⟨_, v', .inr rfl, hb', rfl⟩ hf ?_⟩
  rintro k (rfl | hk)
  · exact .inl (.inl rfl)
  · exact (hs' k hk).imp_left .inr
theorem byteCells_bv (l : List UInt8) : Lib.byteCells l = l.map bv := rfl
theorem ownsRow_base {w : World} {B : Nat} {e : TypeId} {size : Nat} {v : Value} {n : Nat} {xs : List Value} (h : w.ownsRow 0 e size v n xs) (hB : ∀ k, Blk v k → B ≤ k) : w.ownsRow B e size v n xs := by
  refine ⟨h.1, ?_⟩
  rcases h.2 with hn | ⟨g, cap, cur, rfl, hb, rest⟩
  · exact .inl hn
  · exact .inr ⟨g, cap, cur, rfl, hB g (Blk.some.2 rfl), rest⟩
/-- The builder's text, and what is left as it was. -/
theorem own_string {w0 w : World} {L : List Thing} (h : Own w0 L w) {o : Nat} {l : List UInt8} (i : Nat) (hi : L[i]? = some (bldT o l)) :
    Calls Tryz.prog 63 #[.pointer (some ⟨o, 0, none⟩)] w fun e w' => e = .returned (strV l) ∧ Frm (fun _ => False) w0 w' := by
  obtain ⟨F, ⟨p, v, hp, ⟨ho, hb, hne⟩, rfl⟩, hge, -⟩ := h.turn hi
  have hbu : Lib.IsBuilder 73 5 w0.heap.size o (Lib.byteCells l) w := by
    have key : ∀ q, p = q → Lib.BuilderAt 73 5 w0.heap.size o q (Lib.byteCells l) w := by
      rintro q rfl
      refine ⟨hge o (.inl rfl), v, ho, ?_, fun e => hne e⟩
      rw [byteCells_bv, List.length_map]
      exact ownsRow_base hb fun k hk => hge k (.inr hk)
    rcases hp with hp | hp
    · exact .inl (key _ hp)
    · exact .inr (key _ hp)
  refine (Tryz.Builder_String_any w0.heap.size o l w hbu h.frm.size).mono ?_
  rintro e w' ⟨rfl, hbel⟩
  refine ⟨rfl, ?_⟩
  have hf : Frm (fun k => w0.heap.size ≤ k) w w' := ⟨hbel.os, hbel.tape, hbel.output, hbel.size, fun k _ hF => hbel.block k (by omega)⟩
  exact h.frm.trans' hf fun k hk => .inr hk
end Go.Proofs.YtgnjakaamgeibaaGreatDoor
