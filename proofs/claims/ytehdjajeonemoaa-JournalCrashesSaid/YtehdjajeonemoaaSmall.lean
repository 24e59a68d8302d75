/-
  The small methods of a disk: off, count, add, clear, New, Size, Calls, Fail. Conditions: the numbers lie within their kinds.
-/
import Derived.Test.YtehdjajeonemoaaPut
import Derived.Deep.RegionLaw
namespace Go.Proofs.Ytehdjajeonemoaa
open Go.RowKit

/-- The cells of a disk's struct, read one by one. -/
theorem cells6 {w : World} {d : Nat} {c s p x y z : Value} {t : TypeId} (h : w.heap[d]? = some (.cells #[c, s, p, x, y, z] t (0, 0))) :
    w.cell? ⟨d, 0, none⟩ = some c ∧ w.cell? ⟨d, 1, none⟩ = some s ∧ w.cell? ⟨d, 2, none⟩ = some p ∧ w.cell? ⟨d, 3, none⟩ = some x ∧ w.cell? ⟨d, 4, none⟩ = some y ∧ w.cell? ⟨d, 5, none⟩ = some z ∧
    w.frozen? ⟨d, 0, none⟩ = false ∧ w.frozen? ⟨d, 1, none⟩ = false ∧ w.frozen? ⟨d, 2, none⟩ = false ∧ w.frozen? ⟨d, 3, none⟩ = false ∧ w.frozen? ⟨d, 4, none⟩ = false ∧ w.frozen? ⟨d, 5, none⟩ = false := by
  refine ⟨?_, ?_, ?_, ?_, ?_, ?_, ?_, ?_, ?_, ?_, ?_, ?_⟩ <;> first | (rw [cell_of_row w d _ _ t _ h]; rfl) | exact frozen_of_row w d _ _ t h

def pieceCells (ps : List (Nat × List UInt8)) : List Value := ps.flatMap fun p => [.int .i64 p.1, .string ⟨p.2.toArray⟩]
theorem pieceCells_length (ps : List (Nat × List UInt8)) : (pieceCells ps).length = ps.length * 2 := by
  induction ps with
  | nil => rfl
  | cons p ps ih => simp only [pieceCells, List.flatMap_cons, List.length_append, List.length_cons, List.length_nil] at ih ⊢; omega
theorem pieceCells_append (a b : List (Nat × List UInt8)) : pieceCells (a ++ b) = pieceCells a ++ pieceCells b := by simp [pieceCells]

theorem Try.info89 : (Try.prog.info? 89).map (fun i => (i.zero, i.size, i.bytes)) = some (some (.agg #[.int .i64 0, .string ⟨#[]⟩]), 2, 24) := by kernel_rfl

/-- One field is stored. -/
theorem heap_set {w : World} {d i : Nat} {cs : Array Value} {t : TypeId} (h : w.heap[d]? = some (.cells cs t (0, 0))) (v : Value) : (w.setCell ⟨d, i, none⟩ v).heap[d]? = some (.cells (cs.setIfInBounds i v) t (0, 0)) := heap_setCell_same w d i cs t v h

def offB (lim : Bool) (left : Nat) : Bool := lim && (left == 0)

/-- off: whether the power is off. -/
theorem off_any (d : Nat) (c s p : Value) (calls : Value) (lim : Bool) (left : Nat) (w : World) (h : w.heap[d]? = some (.cells #[c, s, p, calls, .bool lim, .int .i64 left] 62 (0, 0))) :
    Calls Try.prog 54 #[.pointer (some ⟨d, 0, none⟩)] w fun e w' => e = .returned (.bool (offB lim left)) ∧ w = w' := by
  obtain ⟨h0, h1, h2, h3, h4, h5, -⟩ := cells6 h
  clear h
  cases lim
  · go_enter Try.func54, Try.ntmps54
    go_wp2
    go_ret
    exact ⟨rfl, rfl⟩
  · go_enter Try.func54, Try.ntmps54
    go_wp2
    all_goals go_ret
    all_goals refine ⟨?_, rfl⟩
    show Ending.returned (.bool ((left : Int) == 0)) = _
    have : ((left : Int) == 0) = offB true left := by
      unfold offB
      rw [Bool.eq_iff_iff]
      simp
    rw [this]

theorem count_any (d : Nat) (c s p : Value) (calls : Nat) (lim : Bool) (left : Nat) (w : World) (h : w.heap[d]? = some (.cells #[c, s, p, .int .i64 calls, .bool lim, .int .i64 left] 62 (0, 0))) (hc : calls ≤ 4611686018427387904) (hl : lim = true → 1 ≤ left) (hl2 : left ≤ 9223372036854775807) :
    Calls Try.prog 56 #[.pointer (some ⟨d, 0, none⟩)] w fun e w' => e = .returned (.tuple #[]) ∧ w'.heap[d]? = some (.cells #[c, s, p, .int .i64 (calls + 1 : Nat), .bool lim, .int .i64 (if lim then left - 1 else left : Nat)] 62 (0, 0)) ∧ Frm (fun k => k = d) w w' := by
  have H := Lib.hid h
  obtain ⟨h0, h1, h2, h3, h4, h5, -, -, -, f3, -, f5⟩ := cells6 h
  clear h
  cases lim
  · clear hl
    go_enter Try.func56, Try.ntmps56
    go_wp2
    go_end0
    refine ⟨rfl, heap_set H.out _, (Frm.refl (fun k => k = d) _).setCell (.inl rfl) _⟩
  · have hl' := hl rfl
    clear hl
    go_enter Try.func56, Try.ntmps56
    go_wp2
    go_end0
    refine ⟨rfl, ?_, ((Frm.refl (fun k => k = d) _).setCell (.inl rfl) _).setCell (.inl rfl) _⟩
    have e : ((left : Int) - 1) = ((left - 1 : Nat) : Int) := by omega
    rw [e]
    exact heap_set (heap_set H.out _) _

theorem clear_any (d : Nat) (c s p x y z : Value) (w : World) (h : w.heap[d]? = some (.cells #[c, s, p, x, y, z] 62 (0, 0))) :
    Calls Try.prog 57 #[.pointer (some ⟨d, 2, none⟩)] w fun e w' => e = .returned (.tuple #[]) ∧ w'.heap[d]? = some (.cells #[c, s, .slice none 0 0, x, y, z] 62 (0, 0)) ∧ Frm (fun k => k = d) w w' := by
  have H := Lib.hid h
  obtain ⟨h0, h1, h2, h3, h4, h5, -, -, f2, -, -, -⟩ := cells6 h
  clear h
  go_enter Try.func57, Try.ntmps57
  go_wp2
  go_end0
  exact ⟨rfl, heap_set H.out _, (Frm.refl (fun k => k = d) _).setCell (.inl rfl) _⟩

theorem new_any (w : World) : Calls Try.prog 20 #[] w fun e w' => e = .returned (.pointer (some ⟨w.heap.size, 0, none⟩)) ∧ w' = w.alloc (.cells #[.slice none 0 0, .slice none 0 0, .slice none 0 0, .int .i64 0, .bool false, .int .i64 0] 62) := by
  go_enter Try.func20, Try.ntmps20
  go_wp2
  go_ret
  exact ⟨rfl, rfl⟩

theorem size_any (d : Nat) (ao : Option Addr) (n cap : Nat) (s p x y z : Value) (w : World) (h : w.heap[d]? = some (.cells #[.slice ao n cap, s, p, x, y, z] 62 (0, 0))) :
    Calls Try.prog 23 #[.pointer (some ⟨d, 0, none⟩)] w fun e w' => e = .returned (.int .i64 n) ∧ w = w' := by
  obtain ⟨h0, -⟩ := cells6 h
  clear h
  go_enter Try.func23, Try.ntmps23
  go_wp2
  go_ret
  exact ⟨rfl, rfl⟩

theorem size_nil (w : World) : Calls Try.prog 23 #[.pointer none] w fun e w' => e = .returned (.int .i64 0) ∧ w = w' := by
  go_enter Try.func23, Try.ntmps23
  go_wp2
  go_ret
  exact ⟨rfl, rfl⟩

theorem calls_any (d : Nat) (c s p y z : Value) (n : Int) (w : World) (h : w.heap[d]? = some (.cells #[c, s, p, .int .i64 n, y, z] 62 (0, 0))) :
    Calls Try.prog 25 #[.pointer (some ⟨d, 0, none⟩)] w fun e w' => e = .returned (.int .i64 n) ∧ w = w' := by
  obtain ⟨-, -, -, h3, -⟩ := cells6 h
  clear h
  go_enter Try.func25, Try.ntmps25
  go_wp2
  go_ret
  exact ⟨rfl, rfl⟩

theorem calls_nil (w : World) : Calls Try.prog 25 #[.pointer none] w fun e w' => e = .returned (.int .i64 0) ∧ w = w' := by
  go_enter Try.func25, Try.ntmps25
  go_wp2
  go_ret
  exact ⟨rfl, rfl⟩

theorem fail_any (d : Nat) (c s p x y z : Value) (n : Int) (w : World) (h : w.heap[d]? = some (.cells #[c, s, p, x, y, z] 62 (0, 0))) (_oy : y.oneCell' = true) (_oz : z.oneCell' = true) :
    Calls Try.prog 36 #[.pointer (some ⟨d, 0, none⟩), .int .i64 n] w fun e w' => e = .returned (.tuple #[]) ∧ w'.heap[d]? = some (.cells #[c, s, p, x, .bool (decide (0 ≤ n)), .int .i64 n.toNat] 62 (0, 0)) ∧ Frm (fun k => k = d) w w' := by
  have H := Lib.hid h
  obtain ⟨h0, h1, h2, h3, h4, h5, -, -, -, -, f4, f5⟩ := cells6 h
  clear h
  go_enter Try.func36, Try.ntmps36
  go_wp2
  all_goals go_end0
  all_goals refine ⟨rfl, ?_, ((Frm.refl (fun k => k = d) _).setCell (.inl rfl) _).setCell (.inl rfl) _⟩
  · have e : max n 0 = 0 := by omega
    rw [e]
    exact heap_set (heap_set H.out _) _
  · have e : max n 0 = n := by omega
    rw [e]
    exact heap_set (heap_set H.out _) _

theorem fail_nil (n : Int) (w : World) : Calls Try.prog 36 #[.pointer none, .int .i64 n] w fun e w' => e = .returned (.tuple #[]) ∧ w = w' := by
  go_enter Try.func36, Try.ntmps36
  go_wp2
  refine bodyPost_ret (results_none rfl _ _ _) rfl ?_
  exact ⟨rfl, rfl⟩

/-- The cells of a new block. -/
theorem new_cells (w : World) (cs : Array Value) (t : TypeId) (n : Nat) (hn : n = w.heap.size) : ∀ j u, cs.toList[j]? = some u → (w.alloc (.cells cs t)).cell? ((⟨n, 0, none⟩ : Addr).add j) = some u := by
  intro j u h
  subst hn
  have : (⟨w.heap.size, 0, none⟩ : Addr).add j = ⟨w.heap.size, j, none⟩ := by rw [Addr.add_lit]; simp
  rw [this, World.cell?_alloc_new]
  simpa using h

theorem add_any (d : Nat) (c s p x y z : Value) (ps : List (Nat × List UInt8)) (off : Nat) (str : ByteArray) (w : World) (h : w.heap[d]? = some (.cells #[c, s, p, x, y, z] 62 (0, 0)))
    (hp : w.ownsRow 0 89 2 p ps.length (pieceCells ps)) (hd : ¬ Blk p d) (hn : ps.length ≤ 1099511627776) :
    Calls Try.prog 55 #[.pointer (some ⟨d, 2, none⟩), .agg #[.int .i64 off, .string str]] w fun e w' => e = .returned (.tuple #[]) ∧ ∃ p', w'.heap[d]? = some (.cells #[c, s, p', x, y, z] 62 (0, 0)) ∧
      w'.ownsRow 0 89 2 p' (ps ++ [(off, str.data.toList)]).length (pieceCells (ps ++ [(off, str.data.toList)])) ∧ Frm (fun k => k = d ∨ Blk p k) w w' ∧ (∀ k, Blk p' k → Blk p k ∨ w.heap.size ≤ k) := by
  obtain ⟨i0, hi, hz0, hz1, hz2⟩ := info_parts Try.info89
  have H := Lib.hid h
  obtain ⟨h0, h1, h2, h3, h4, h5, -, -, f2, -, -, -⟩ := cells6 h
  clear h
  go_enter Try.func55, Try.ntmps55
  have hb : d < w.heap.size := World.block_lt_of_cell? w _ h0
  go_wp2
  have hrow : ((w.alloc (Obj.cells #[Value.int IntKind.i64 ↑off, Value.string str] 89)).alloc (Obj.cells #[Value.int IntKind.i64 ↑off, Value.string str] 89)).drew.ownsRow 0 89 2 p ps.length (pieceCells ps) := ((hp.alloc _).alloc _).drew
  have hnew : ∀ j u, [Value.int IntKind.i64 ↑off, Value.string str][j]? = some u → ((w.alloc (Obj.cells #[Value.int IntKind.i64 ↑off, Value.string str] 89)).alloc (Obj.cells #[Value.int IntKind.i64 ↑off, Value.string str] 89)).drew.cell? ((⟨w.heap.size + 1, 0, none⟩ : Addr).add j) = some u :=
    new_cells (w.alloc (Obj.cells #[Value.int IntKind.i64 ↑off, Value.string str] 89)) #[Value.int IntKind.i64 ↑off, Value.string str] 89 _ (by simp)
  have hone : ∀ u ∈ [Value.int IntKind.i64 ↑off, Value.string str], u.oneCell' = true := by simp [Value.oneCell']
  have Hrow := Lib.hid hrow
  have Hnew := Lib.hid hnew
  have Hone := Lib.hid hone
  clear hrow hnew hone
  have bd1 : (ps.length + 1) * 24 ≤ 140737488355328 := by omega
  have bd2 : ps.length + 1 ≤ maxLen := by unfold maxLen; omega
  have Bd1 := Lib.hid bd1
  have Bd2 := Lib.hid bd2
  clear bd1 bd2
  have hF0 : Frm (fun _ => False) w ((w.alloc (Obj.cells #[Value.int IntKind.i64 ↑off, Value.string str] 89)).alloc (Obj.cells #[Value.int IntKind.i64 ↑off, Value.string str] 89)).drew := (((Frm.refl _ _).alloc _).alloc _).drew
  go_region_law (refine step_append_one rfl (.tmp 8) (.tmp 10) 58 rfl 89 i0 _ 2 24 Try.underlying58 hi hz0 hz1 hz2 rfl (by decide) p ps.length (pieceCells ps) rfl Hrow.out ⟨w.heap.size + 1, 0, none⟩ 1 _ rfl rfl Hnew.out Hone.out Bd1.out Bd2.out ?_; intro g cap w1 hrow1 hf1 hg1; have hF := (hF0.mono (G := Blk p) (fun _ h => h.elim)).trans hf1; have hc1 := hF.cell h2 hd; have hf2 := (hF.frozen (o := 2) hb hd).trans f2; have Hrow1 := Lib.hid hrow1; clear hrow1)
  all_goals
    go_end0
    refine ⟨rfl, _, heap_set (hF.heap H.out hd) _, ?_, (hF.mono fun k hk => .inr hk).setCell (.inl (.inl rfl)) _, ?_⟩
    · rw [List.length_append, pieceCells_append]
      exact ownsRow_frm (F := fun k => k = d) Hrow1.out ((Frm.refl (fun k => k = d) _).setCell (.inl rfl) _) (fun k hk e => by
        subst e
        obtain rfl := Blk.some.1 hk
        rcases hg1 with h | h
        · exact hd h
        · simp at h; omega)
    · intro k hk
      obtain rfl := Blk.some.1 hk
      rcases hg1 with h | h
      · exact .inl h
      · simp at h; exact .inr (by omega)
end Go.Proofs.Ytehdjajeonemoaa
