/-
  The output of a date: the builder that lies within it. Conditions: the text stays within reach.
-/
import Derived.Test.YtmpfgdpicbpedaaDoorStr
import Derived.Lib.Builder
import Derived.Lib.AppendStr
import Derived.Lib.UnsafeStr
import Derived.Laws.Externs
import Derived.Shelf.RegionOpenPlain
namespace Go.Proofs.YtmpfgdpicbpedaaDoor
open Go.RowKit

/-- The output of a date, and the text that its builder holds. -/
def outT (o : Nat) (y m d : Int) (l : List UInt8) : Thing where
  P w F := ∃ p v, (p = .pointer none ∨ p = .pointer (some ⟨o, 3, none⟩)) ∧ w.heap[o]? = some (.cells #[.int .i64 y, .int .i64 m, .int .i64 d, p, v] 68 (0, 0)) ∧ Bts w 5 v l ∧ ¬ Blk v o ∧ F = fun k => k = o ∨ Blk v k
  stable w w' F G h hf hF := by
    obtain ⟨p, v, hp, ho, hb, hne, rfl⟩ := h
    exact ⟨p, v, hp, hf.heap ho (hF o (.inl rfl)), hb.frm hf fun k hk => hF k (.inr hk), hne, rfl⟩
  lt w F k h hk := by
    obtain ⟨p, v, hp, ho, hb, hne, rfl⟩ := h
    rcases hk with rfl | hk
    · exact (Array.getElem?_eq_some_iff.1 ho).1
    · exact hb.lt hk

theorem out_cells {w : World} {o : Nat} {y m d : Int} {p v : Value} (ho : w.heap[o]? = some (.cells #[.int .i64 y, .int .i64 m, .int .i64 d, p, v] 68 (0, 0))) :
    w.cell? ⟨o, 0, none⟩ = some (.int .i64 y) ∧ w.cell? ⟨o, 1, none⟩ = some (.int .i64 m) ∧ w.cell? ⟨o, 2, none⟩ = some (.int .i64 d) ∧ w.cell? ⟨o, 3, none⟩ = some p ∧ w.cell? ⟨o, 4, none⟩ = some v ∧
      w.frozen? ⟨o, 3, none⟩ = false ∧ w.frozen? ⟨o, 4, none⟩ = false ∧ w.shape? o = some (68, 5) := by
  refine ⟨?_, ?_, ?_, ?_, ?_, Lib.frozen_of_heap ho 3, Lib.frozen_of_heap ho 4, by simp [World.shape?, ho]⟩
  all_goals (rw [Lib.cell_of_heap ho]; rfl)

set_option maxRecDepth 100000 in
set_option maxHeartbeats 1000000 in
theorem copyCheck_used (o : Nat) (w : World) (h0 : w.cell? ⟨o, 3, none⟩ = some (.pointer (some ⟨o, 3, none⟩))) :
    Calls Tryd.prog 61 #[.pointer (some ⟨o, 3, none⟩)] w fun e w' => e = .returned (.tuple #[]) ∧ w' = w := by
  obtain ⟨j, hj, hjs⟩ := Option.map_eq_some_iff.1 (show (Tryd.prog.info? 66).map (·.size) = some 2 by kernel_rfl)
  go_enter Tryd.func61, Tryd.ntmps61
  go_wp2
  rw [Lib.run_neq_ptr_same w _ Tryd.underlying64 hj]
  go_wp2
  go_end0
  exact ⟨rfl, rfl⟩

theorem lies_builder : liesAt Tryd.prog Tryd.prog.depth 68 (5 / Tryd.prog.cellsOf 68) 3 66 1 = true := by kernel_rfl

set_option maxRecDepth 100000 in
set_option maxHeartbeats 1000000 in
theorem copyCheck_fresh (o : Nat) (w : World) (h0 : w.cell? ⟨o, 3, none⟩ = some (.pointer none)) (hsh : w.shape? o = some (68, 5)) (hfz : w.frozen? ⟨o, 3, none⟩ = false) :
    Calls Tryd.prog 61 #[.pointer (some ⟨o, 3, none⟩)] w fun e w' => e = .returned (.tuple #[]) ∧ w' = w.setCell ⟨o, 3, none⟩ (.pointer (some ⟨o, 3, none⟩)) := by
  obtain ⟨j, hj, hjs⟩ := Option.map_eq_some_iff.1 (show (Tryd.prog.info? 66).map (·.size) = some 2 by kernel_rfl)
  go_enter Tryd.func61, Tryd.ntmps61
  go_wp2
  rw [Lib.run_to_unsafe w ⟨o, 3, none⟩ Tryd.underlying64 Tryd.underlying93 hj (by rw [hjs]; decide) hsh (show (3 : Nat) < 5 by omega)]
  simp only [Result.andThen]
  rw [Oper.upon_value]
  go_wp2
  rw [run_callFunc_extern Tryd.func66 (by kernel_rfl) (by kernel_rfl) (by kernel_rfl) (e := Extern.AbiNoEscape.same) (by kernel_rfl)]
  rw [Lib.run_noEscape]
  simp only [Result.andThen]
  rw [Oper.upon_value]
  go_wp2
  rw [Lib.run_from_unsafe w ⟨o, 3, none⟩ Tryd.underlying93 Tryd.underlying64 hj hsh lies_builder]
  simp only [Result.andThen]
  rw [Oper.upon_value]
  go_wp2
  go_end0
  exact ⟨rfl, rfl⟩

/-- What a write leaves. -/
def outAt (w : World) (o : Nat) (y m d : Int) (p v : Value) (l : List UInt8) : Prop :=
  w.heap[o]? = some (.cells #[.int .i64 y, .int .i64 m, .int .i64 d, p, v] 68 (0, 0)) ∧ Bts w 5 v l ∧ ¬ Blk v o

theorem copyCheck_any {o : Nat} {y m d : Int} {p v : Value} {l : List UInt8} {w : World} (hp : p = .pointer none ∨ p = .pointer (some ⟨o, 3, none⟩)) (h : outAt w o y m d p v l) :
    Calls Tryd.prog 61 #[.pointer (some ⟨o, 3, none⟩)] w fun e w' => e = .returned (.tuple #[]) ∧ outAt w' o y m d (.pointer (some ⟨o, 3, none⟩)) v l ∧ Frm (fun k => k = o) w w' := by
  obtain ⟨ho, hb, hne⟩ := h
  obtain ⟨-, -, -, c3, -, f3, -, sh⟩ := out_cells ho
  rcases hp with rfl | rfl
  · refine (copyCheck_fresh o w c3 sh f3).mono ?_
    rintro e w' ⟨rfl, rfl⟩
    have hf : Frm (fun k => k = o) w (w.setCell ⟨o, 3, none⟩ (.pointer (some ⟨o, 3, none⟩))) := Frm.setCell (F := fun k => k = o) (Frm.refl _ _) (p := ⟨o, 3, none⟩) (.inl rfl) _
    exact ⟨rfl, ⟨by rw [heap_set ho]; rfl, hb.frm hf fun k hk e => hne (e ▸ hk), hne⟩, hf⟩
  · refine (copyCheck_used o w c3).mono ?_
    rintro e w' ⟨rfl, rfl⟩
    exact ⟨rfl, ⟨ho, hb, hne⟩, Frm.refl _ _⟩

/-- An append of a string, and where what it gives lies. -/
theorem wpList_append_str {P : Program} {w : World} {ops : Array Oper} {rest : List Oper} {o : Oper} {a : Act} {Q : Exit → Act → World → Prop} (hgd : o.guard = none) (sl x : Operand) (t u : TypeId)
    (ho : o.op = .call { callee := .builtin .append, args := #[sl, x], argTypes := #[t, u] })
    (e : TypeId) (i : TypeInfo) (ht : P.underlying t = some (.slice e)) (hu : P.underlying u = some .string) (hi : P.info? e = some i) (hz : i.zero = some (.int .u8 0)) (hsize : i.size = 1) (hby : i.bytes = 1)
    (v : Value) (l : List UInt8) (hs : a.eval sl = v) (hown : Bts w e v l) (s : ByteArray) (hx : a.eval x = .string s) (hb : l.length + s.size ≤ 1099511627776)
    (h : ∀ v' w', Bts w' e v' (l ++ s.data.toList) → w.grownBy w' v.ownBlock → (∀ k, Blk v' k → Blk v k ∨ w.heap.size ≤ k) → wpList P ops Q rest (a.put o.dst v') w') : wpList P ops Q (o :: rest) a w := by
  refine wpList_plain hgd fun K hK => ?_
  have h63 : l.length + s.size ≤ maxLen := by unfold maxLen; omega
  obtain ⟨v', w', hr, h2, h3, -⟩ := Lib.run_append_own_string (P := P) w 0 t u o.type e i ht hu hi hz hsize hby v l.length _ hown s h63 (by omega) (Nat.zero_le _)
  have hw : ∀ k, Blk v' k → Blk v k ∨ w.heap.size ≤ k := by
    intro k hk
    rcases hown.2 with ⟨rfl, hn⟩ | ⟨g, cap, cur, rfl, hbg, hg, hnc, hcm, hcs, htake⟩
    · have ho' : w.ownsRow w.heap.size e 1 (.slice none 0 0) l.length (l.map bv) := ⟨hown.1, .inl ⟨rfl, hn⟩⟩
      obtain ⟨v2, w2, hr2, h22, -, -⟩ := Lib.run_append_own_string (P := P) w w.heap.size t u o.type e i ht hu hi hz hsize hby _ l.length _ ho' s h63 (by omega) (Nat.le_refl _)
      rw [hr] at hr2
      injection hr2 with e1 e2
      subst e1; subst e2
      exact .inr (h22.lt k hk).1
    · by_cases hroom : l.length + s.size ≤ cap
      · have hr2 := Lib.run_append_room_string (P := P) w t u o.type e i ht hu hi hsize g l.length cap cur hg s hroom (by omega)
        rw [hr] at hr2
        injection hr2 with e1 e2
        subst e1
        exact .inl (Blk.some.2 (Blk.some.1 hk))
      · have hr2 := Lib.run_append_grow_string (P := P) w t u o.type e i (.int .u8 0) ht hu hi hz ⟨g, 0, none⟩ l.length cap (l.map bv) (by rw [hsize]; simp) (hown.cells (g := g) rfl) s (by omega) (by unfold maxLen at h63; omega) (by rw [hby]; exact growslice_fits (by omega) (by omega))
        rw [hr] at hr2
        injection hr2 with e1 e2
        subst e1
        exact .inr (Nat.le_of_eq (Blk.some.1 hk).symm)
  unfold Oper.wp execOp
  simp only [ho, resolve, invoke, builtin, Sem.run_bind, Sem.run_pure, Result.andThen_ok, List.map_toArray, List.map_cons, List.map_nil, hs, hx, hr]
  refine hK _ _ (h v' w' ?_ h3 hw)
  unfold Bts
  rw [List.length_append, size_toList, List.map_append]
  exact h2

set_option maxRecDepth 100000 in
set_option maxHeartbeats 2000000 in
theorem writeString_any {o : Nat} {y m d : Int} {p v : Value} {l : List UInt8} {w : World} (hp : p = .pointer none ∨ p = .pointer (some ⟨o, 3, none⟩)) (h : outAt w o y m d p v l) (s : ByteArray) (hs : l.length + s.size ≤ 1099511627776) :
    Calls Tryd.prog 56 #[.pointer (some ⟨o, 3, none⟩), .string s] w fun e w' => e = .returned (.tuple #[.int .i64 s.size, .nilIface]) ∧ ∃ v', outAt w' o y m d (.pointer (some ⟨o, 3, none⟩)) v' (l ++ s.data.toList) ∧ Frm (fun k => k = o ∨ Blk v k) w w' ∧ (∀ k, Blk v' k → Blk v k ∨ w.heap.size ≤ k) := by
  obtain ⟨i0, hi, hz0, hz1, hz2⟩ := info_parts (show (Tryd.prog.info? 5).map (fun i => (i.zero, i.size, i.bytes)) = some (some (.int .u8 0), 1, 1) by kernel_rfl)
  go_enter Tryd.func56, Tryd.ntmps56
  go_wp2_with fail
  refine (copyCheck_any hp h).mono ?_
  rintro e w1 ⟨rfl, ⟨ho1, hb1, hne1⟩, hf1⟩
  obtain ⟨-, -, -, c3, c4, -, f4, -⟩ := out_cells ho1
  go_wp2_with (at_builtin; refine wpList_append_str rfl _ _ 48 9 rfl 5 i0 Tryd.underlying48 Tryd.underlying9 hi hz0 hz1 hz2 _ _ rfl hb1 s rfl hs ?_)
  intro v' w2 hbn hgrow hsub
  have hlt : o < w1.heap.size := (Array.getElem?_eq_some_iff.1 ho1).1
  have hb2 : w2.heap[o]? = some (.cells #[.int .i64 y, .int .i64 m, .int .i64 d, .pointer (some ⟨o, 3, none⟩), v] 68 (0, 0)) := by
    rw [hgrow.block o hlt (fun e => hne1 e.symm)]
    exact ho1
  obtain ⟨-, -, -, d3, d4, -, g4, -⟩ := out_cells hb2
  obtain ⟨ao, n', cap, rfl⟩ : ∃ ao n' cap, v' = .slice ao n' cap := by
    rcases hbn.2 with ⟨hv, _⟩ | ⟨g, cap, cur, hv, _⟩
    · exact ⟨_, _, _, hv⟩
    · exact ⟨_, _, _, hv⟩
  go_wp2
  go_ret2
  have hne2 : ¬ Blk (.slice ao n' cap) o := fun e => (hsub o e).elim hne1 (fun hh => absurd hlt (Nat.not_lt.2 hh))
  have hfg : Frm (fun k => k = o ∨ Blk v k) w1 w2 := Frm.of_grown hgrow fun k hk => .inr hk
  have hfs := hfg.setCell (p := ⟨o, 4, none⟩) (.inl (.inl rfl)) (.slice ao n' cap)
  refine ⟨rfl, .slice ao n' cap, ⟨by rw [heap_set hb2]; rfl, ?_, hne2⟩, (hf1.mono fun k hk => .inl hk).trans hfs, fun k hk => (hsub k hk).imp_right fun hh => Nat.le_trans hf1.size hh⟩
  exact hbn.frm (F := fun k => k = o) (Frm.setCell (F := fun k => k = o) (Frm.refl _ _) (p := ⟨o, 4, none⟩) (.inl rfl) _) fun k hk e => hne2 (e ▸ hk)

/-- The builder's own call: the output holds the text behind what it held. -/
theorem own_write {w0 w : World} {L : List Thing} (h : Own w0 L w) {o : Nat} {y m d : Int} {l : List UInt8} (i : Nat) (hi : L[i]? = some (outT o y m d l)) (s : ByteArray) (hs : l.length + s.size ≤ 1099511627776) :
    Calls Tryd.prog 56 #[.pointer (some ⟨o, 3, none⟩), .string s] w fun e w' => e = .returned (.tuple #[.int .i64 s.size, .nilIface]) ∧ Own w0 (L.set i (outT o y m d (l ++ s.data.toList))) w' := by
  obtain ⟨F, ⟨p, v, hp, ho, hb, hne, rfl⟩, _, ht⟩ := h.turn hi
  refine (writeString_any hp ⟨ho, hb, hne⟩ s hs).mono ?_
  rintro e w' ⟨rfl, v', ⟨ho', hb', hne'⟩, hf, hs'⟩
  refine ⟨rfl, ht _ _ w' ⟨_, v', .inr rfl, ho', hb', hne', rfl⟩ hf ?_⟩
  rintro k (rfl | hk)
  · exact .inl (.inl rfl)
  · exact (hs' k hk).imp_left .inr

theorem frm_freeze {w : World} {g c cap : Nat} {cur : Array Value} {e : TypeId} {fr : Nat × Nat} (_hg : w.heap[g]? = some (.cells cur e fr)) (k : Nat) : Frm (Blk (.slice (some ⟨g, 0, none⟩) c cap)) w (w.drew.freeze ⟨g, 0, none⟩ k) := by
  have hb : Below g w (w.drew.freeze ⟨g, 0, none⟩ k) := Lib.below_freeze (Below.drew (Below.refl g w)) (p := ⟨g, 0, none⟩) (Nat.le_refl _) k
  refine ⟨hb.os, hb.tape, hb.output, hb.size, fun i hi hF => ?_⟩
  have hne : ¬ i = g := fun e => hF (Blk.some.2 e)
  unfold World.freeze
  split
  · rfl
  · simp only [Array.getElem?_modify]
    rw [if_neg (fun e => hne e.symm)]
    rfl

theorem byteCells_bv (l : List UInt8) : Lib.byteCells l = l.map bv := rfl

set_option maxRecDepth 100000 in
set_option maxHeartbeats 2000000 in
/-- (*strings.Builder).String: the text that the output holds. -/
theorem string_any {o : Nat} {y m d : Int} {p v : Value} {l : List UInt8} {w : World} (h : outAt w o y m d p v l) :
    Calls Tryd.prog 46 #[.pointer (some ⟨o, 3, none⟩)] w fun e w' => e = .returned (strV l) ∧ Frm (Blk v) w w' := by
  obtain ⟨ho, hb, hne⟩ := h
  have mixed : Tryd.prog.follows .mixedOrders = true := by kernel_rfl
  have hUS0 : ∀ (q : Option Addr) (W : World), (Builtin.unsafeString_ #[89, 3] 9 #[.pointer q, .int .i64 0]).run Tryd.prog W = .ok (.string .empty) W := fun q W => Lib.run_unsafeString_none W _ _ _ q
  unfold strV
  have c4 : w.drew.cell? ⟨o, 4, none⟩ = some v := (out_cells (w := w.drew) ho).2.2.2.2.1
  rcases hb.2 with ⟨rfl, hn⟩ | ⟨g, cap, cur, rfl, hbg, hg, hnc, hcm, hcs, htake⟩
  · obtain rfl : l = [] := List.eq_nil_of_length_eq_zero hn
    have hSD : (Builtin.unsafeSliceData_ #[48] 89 #[.slice none 0 0]).run Tryd.prog w.drew = .ok (.pointer none) w.drew := rfl
    go_enter Tryd.func46, Tryd.ntmps46
    go_wp2
    go_region_o
    all_goals (go_wp2; go_ret; exact ⟨rfl, (Frm.refl _ _).drew⟩)
  · by_cases h0 : l = []
    · subst h0
      by_cases hc0 : cap = 0
      · subst hc0
        have hlt : o < w.heap.size := (Array.getElem?_eq_some_iff.1 ho).1
        have hSD : (Builtin.unsafeSliceData_ #[48] 89 #[.slice (some ⟨g, 0, none⟩) 0 0]).run Tryd.prog w.drew = .ok (.pointer (some ⟨w.drew.heap.size, 0, none⟩)) (w.drew.alloc (.view ⟨g, 0, none⟩ 5)) :=
          Lib.run_unsafeSliceData_zero w.drew _ _ 5 Tryd.underlying89 ⟨g, 0, none⟩ 0 (5, cur.size) (by have hg' : w.drew.heap[g]? = some (.cells cur 5 (0, 0)) := hg; simp [World.shape?, hg'])
        have c2 : (w.drew.alloc (.view ⟨g, 0, none⟩ 5)).cell? ⟨o, 4, none⟩ = some (.slice (some ⟨g, 0, none⟩) 0 0) :=
          (out_cells (w := w.drew.alloc (.view ⟨g, 0, none⟩ 5)) ((Lib.alloc_old w.drew _ o hlt).trans ho)).2.2.2.2.1
        have c3 : (w.alloc (.view ⟨g, 0, none⟩ 5)).drew.cell? ⟨o, 4, none⟩ = some (.slice (some ⟨g, 0, none⟩) 0 0) := c2
        have c0 : w.cell? ⟨o, 4, none⟩ = some (.slice (some ⟨g, 0, none⟩) 0 0) := c4
        have hfin : Frm (Blk (.slice (some ⟨g, 0, none⟩) 0 0)) w (w.drew.alloc (.view ⟨g, 0, none⟩ 5)) := ((Frm.refl _ _).drew).alloc _
        have Hfin := Lib.hid hfin
        clear hb hne hnc hcm hcs htake hfin
        go_enter Tryd.func46, Tryd.ntmps46
        go_wp2
        go_region_o
        all_goals (go_wp2; go_ret; exact ⟨rfl, Hfin.out⟩)
      · have hSD : (Builtin.unsafeSliceData_ #[48] 89 #[.slice (some ⟨g, 0, none⟩) 0 cap]).run Tryd.prog w.drew = .ok (.pointer (some ⟨g, 0, none⟩)) w.drew :=
          Lib.run_unsafeSliceData_row _ _ _ _ _ _ hc0
        clear hc0 hb hne hnc hcm hcs htake
        go_enter Tryd.func46, Tryd.ntmps46
        go_wp2
        go_region_o
        all_goals (go_wp2; go_ret; exact ⟨rfl, (Frm.refl _ _).drew⟩)
    · have hl0 : l.length ≠ 0 := by simpa using h0
      have hSD : (Builtin.unsafeSliceData_ #[48] 89 #[.slice (some ⟨g, 0, none⟩) l.length cap]).run Tryd.prog w.drew = .ok (.pointer (some ⟨g, 0, none⟩)) w.drew :=
        Lib.run_unsafeSliceData_row _ _ _ _ _ _ (by omega)
      have hUS : (Builtin.unsafeString_ #[89, 3] 9 #[.pointer (some ⟨g, 0, none⟩), .int .i64 l.length]).run Tryd.prog w.drew = .ok (.string ⟨l.toArray⟩) (w.drew.freeze ⟨g, 0, none⟩ l.length) := by
        refine Lib.run_unsafeString_row w.drew 89 3 9 5 Tryd.underlying89 (by kernel_rfl) g cur.size (by have hg' : w.drew.heap[g]? = some (.cells cur 5 (0, 0)) := hg; simp [World.shape?, hg']) l h0 (by omega) (by unfold maxLen at hcm; omega) ?_
        intro j x hx
        exact hb.cells (g := g) rfl j (.int .u8 x.toNat) (by simp [bv, hx])
      clear h0 hl0
      go_enter Tryd.func46, Tryd.ntmps46
      go_wp2
      go_region_o
      all_goals (go_wp2; go_ret; exact ⟨rfl, frm_freeze hg _⟩)
end Go.Proofs.YtmpfgdpicbpedaaDoor
