/-
  Laws of no program: a frame over blocks; slices that own a row; append of zeros; copy of a string. Conditions: none.
-/

import Derived.WalkKit
import Derived.Deep.AppendSrc
import Derived.Lib.AppendZerosOnto
import Derived.Laws.CopyOwn
import Derived.Deep.Quiet
import Derived.Lib.Hide
import Derived.Outline
namespace Go.Proofs.YtgnjakaamgeibaaGreatDoor
open Go.RowKit
/-- All blocks that were there, but those in F, are as they were. -/
structure Frm (F : Nat → Prop) (w w' : World) : Prop where
  os : w'.os = w.os
  tape : w'.tape = w.tape
  output : w'.output = w.output
  size : w.heap.size ≤ w'.heap.size
  block : ∀ k, k < w.heap.size → ¬ F k → w'.heap[k]? = w.heap[k]?
theorem Frm.refl (F : Nat → Prop) (w : World) : Frm F w w := ⟨rfl, rfl, rfl, Nat.le_refl _, fun _ _ _ => rfl⟩
theorem Frm.trans' {F G : Nat → Prop} {a b c : World} (h : Frm F a b) (k : Frm G b c) (hs : ∀ x, G x → F x ∨ a.heap.size ≤ x) : Frm F a c :=
  ⟨k.os.trans h.os, k.tape.trans h.tape, k.output.trans h.output, Nat.le_trans h.size k.size, fun i hi hF =>
    (k.block i (Nat.lt_of_lt_of_le hi h.size) (fun hG => (hs i hG).elim hF (by omega))).trans (h.block i hi hF)⟩
theorem Frm.trans {F : Nat → Prop} {a b c : World} (h : Frm F a b) (k : Frm F b c) : Frm F a c := h.trans' k fun _ hx => .inl hx
theorem Frm.mono {F G : Nat → Prop} {a b : World} (h : Frm F a b) (hs : ∀ x, F x → G x) : Frm G a b := ⟨h.os, h.tape, h.output, h.size, fun i hi hG => h.block i hi fun hF => hG (hs i hF)⟩
theorem Frm.drew {F : Nat → Prop} {a b : World} (h : Frm F a b) : Frm F a b.drew := ⟨h.os, h.tape, h.output, h.size, h.block⟩
theorem Frm.drewN {F : Nat → Prop} {a b : World} (h : Frm F a b) (n : Nat) : Frm F a (b.drewN n) := ⟨h.os, h.tape, h.output, h.size, h.block⟩
theorem Frm.alloc {F : Nat → Prop} {a b : World} (h : Frm F a b) (o : Obj) : Frm F a (b.alloc o) :=
  ⟨h.os, h.tape, h.output, Nat.le_trans h.size (by simp), fun i hi hF => (Below.heap_alloc b o i (Nat.lt_of_lt_of_le hi h.size)).trans (h.block i hi hF)⟩
theorem Frm.setCell {F : Nat → Prop} {a b : World} (h : Frm F a b) {p : Addr} (hp : F p.block ∨ a.heap.size ≤ p.block) (v : Value) : Frm F a (b.setCell p v) :=
  ⟨h.os, h.tape, h.output, Nat.le_trans h.size (by simp), fun i hi hF => (Below.heap_setCell b p v i (fun e => hp.elim (fun h => hF (e ▸ h)) (by omega))).trans (h.block i hi hF)⟩
theorem Frm.setRow {F : Nat → Prop} {a b : World} (h : Frm F a b) {g : Nat} (hp : F g ∨ a.heap.size ≤ g) (cs : Array Value) : Frm F a (b.setRow g cs) :=
  ⟨h.os, h.tape, h.output, Nat.le_trans h.size (by simp [World.setRow]), fun i hi hF => (setRow_other b g i cs (fun e => hp.elim (fun h => hF (e ▸ h)) (by omega))).trans (h.block i hi hF)⟩
theorem Frm.of_below {F : Nat → Prop} {w w' : World} (h : Below w.heap.size w w') : Frm F w w' := ⟨h.os, h.tape, h.output, h.size, fun k hk _ => h.block k hk⟩
theorem Frm.of_grown {F : Nat → Prop} {w w' : World} {row : Option Nat} (h : w.grownBy w' row) (hr : ∀ k, row = some k → F k) : Frm F w w' :=
  ⟨h.os, h.tape, h.output, h.size, fun k hk hF => h.block k hk (fun e => hF (hr k e.symm))⟩
theorem Frm.cell {F : Nat → Prop} {w w' : World} (h : Frm F w w') {b o : Nat} {v : Value} (hc : w.cell? ⟨b, o, none⟩ = some v) (hF : ¬ F b) : w'.cell? ⟨b, o, none⟩ = some v := by
  have hb : b < w.heap.size := World.block_lt_of_cell? w _ hc
  exact (World.cell?_of_block (w := w) (a := ⟨b, o, none⟩) (h.block b hb hF)).trans hc
theorem Frm.heap {F : Nat → Prop} {w w' : World} (h : Frm F w w') {b : Nat} {o : Obj} (hc : w.heap[b]? = some o) (hF : ¬ F b) : w'.heap[b]? = some o :=
  (h.block b (Array.getElem?_eq_some_iff.1 hc).1 hF).trans hc
/-- The block of a slice's row. -/
def Blk (v : Value) (k : Nat) : Prop := v.ownBlock = some k
theorem Blk.nil {k : Nat} : ¬ Blk (.slice none 0 0) k := by simp [Blk, Value.ownBlock]
theorem Blk.some {g n c k : Nat} {o : Nat} : Blk (.slice (some ⟨g, o, none⟩) n c) k ↔ k = g := by simp [Blk, Value.ownBlock, eq_comm]
theorem ownsRow_frm {w w' : World} {e : TypeId} {size : Nat} {v : Value} {n : Nat} {xs : List Value} {F : Nat → Prop} (h : w.ownsRow 0 e size v n xs) (hf : Frm F w w') (hF : ∀ k, Blk v k → ¬ F k) : w'.ownsRow 0 e size v n xs := by
  refine ⟨h.1, ?_⟩
  rcases h.2 with hn | ⟨g, cap, cur, rfl, hb, hgg, rest⟩
  · exact .inl hn
  · exact .inr ⟨g, cap, cur, rfl, hb, hf.heap hgg (hF g (Blk.some.2 rfl)), rest⟩
/-- The cells of bytes. -/
def bv (b : UInt8) : Value := .int .u8 b.toNat
/-- A slice of bytes that owns its row. -/
def Bts (w : World) (e : TypeId) (v : Value) (l : List UInt8) : Prop := w.ownsRow 0 e 1 v l.length (l.map bv)
theorem Bts.frm {w w' : World} {e : TypeId} {v : Value} {l : List UInt8} {F : Nat → Prop} (h : Bts w e v l) (hf : Frm F w w') (hF : ∀ k, Blk v k → ¬ F k) : Bts w' e v l := ownsRow_frm h hf hF
theorem Bts.nil (w : World) (e : TypeId) : Bts w e (.slice none 0 0) [] := World.ownsRow_nil _ _ _ _
theorem Bts.cases {w : World} {e : TypeId} {v : Value} {l : List UInt8} (h : Bts w e v l) :
    (v = .slice none 0 0 ∧ l = []) ∨ ∃ g cap cur, v = .slice (some ⟨g, 0, none⟩) l.length cap ∧ w.heap[g]? = some (.cells cur e (0, 0)) ∧ l.length ≤ cap ∧ cap ≤ maxLen ∧ cur.size = cap ∧ cur.toList.take l.length = l.map bv := by
  rcases h.2 with ⟨rfl, h0⟩ | ⟨g, cap, cur, rfl, _, h1, h2, h3, h4, h5⟩
  · exact .inl ⟨rfl, List.eq_nil_of_length_eq_zero h0⟩
  · exact .inr ⟨g, cap, cur, rfl, h1, h2, h3, by simpa using h4, by simpa using h5⟩
theorem Bts.slice {w : World} {e : TypeId} {v : Value} {l : List UInt8} (h : Bts w e v l) : ∃ ao cap, v = .slice ao l.length cap ∧ l.length ≤ cap ∧ (ao = none → l = [] ∧ cap = 0) := by
  rcases h.cases with ⟨rfl, rfl⟩ | ⟨g, cap, cur, rfl, _, h2, _⟩
  · exact ⟨none, 0, rfl, Nat.le_refl _, fun _ => ⟨rfl, rfl⟩⟩
  · exact ⟨_, cap, rfl, h2, fun h => by cases h⟩
theorem Bts.lt {w : World} {e : TypeId} {v : Value} {l : List UInt8} (h : Bts w e v l) {k : Nat} (hk : Blk v k) : k < w.heap.size := (World.ownsRow.lt h k hk).2
section
variable {P : Program} {ops : Array Oper} {rest : List Oper} {o : Oper} {a : Act} {w : World} {Q : Exit → Act → World → Prop}
/-- 'append(s, x)', s a slice that owns its row. -/
theorem run_append_one (t ty e : TypeId) (i : TypeInfo) (z : Value) (size bytes : Nat) (ht : P.underlying t = some (.slice e)) (hi : P.info? e = some i) (hz : i.zero = some z)
    (hsize : i.size = size) (hby : i.bytes = bytes) (hzs : z.cells.size = size) (hsz : 0 < size) (v : Value) (n : Nat) (xs : List Value) (hown : w.ownsRow 0 e size v n xs)
    (ad : Addr) (c : Nat) (news : List Value) (hl : news.length = size) (hnews : ∀ j u, news[j]? = some u → w.cell? (ad.add j) = some u) (h1 : ∀ u ∈ news, u.oneCell' = true) (hbytes : (n + 1) * bytes ≤ 140737488355328) (hn : n + 1 ≤ maxLen) :
    ∃ g cap w', (Builtin.append_ #[t, t] ty #[v, .slice (some ad) 1 c]).run P w = .ok (.slice (some ⟨g, 0, none⟩) (n + 1) cap) w' ∧
      w'.ownsRow 0 e size (.slice (some ⟨g, 0, none⟩) (n + 1) cap) (n + 1) (xs ++ news) ∧ Frm (Blk v) w w' ∧ (Blk v g ∨ w.heap.size ≤ g) := by
  subst hsize
  subst hby
  have hsmall : n + 1 ≤ 9223372036854775807 := by simp only [maxLen] at hn; omega
  have hl1 : news.length = 1 * i.size := by rw [hl, Nat.one_mul]
  have hlen : (xs ++ news).length = (n + 1) * i.size := by rw [List.length_append, hown.1, hl1, Nat.add_mul]
  have grown : ∀ (old : Nat), old < n + 1 →
      (w.drew.alloc (.cells (xs.toArray ++ news.toArray ++ Builtin.zeroCells z.cells (grownCap w (n + 1) old e - (n + 1))) e)).ownsRow 0 e i.size
        (.slice (some ⟨w.heap.size, 0, none⟩) (n + 1) (grownCap w (n + 1) old e)) (n + 1) (xs ++ news) := by
    intro old ho
    have hge := grownCap_ge w (n + 1) old e
    have hcm : grownCap w (n + 1) old e ≤ maxLen := grownCap_le_maxLen w (n + 1) old e hn
    refine ⟨hlen, .inr ⟨w.heap.size, _, _, rfl, Nat.zero_le _, heap_alloc_new w.drew _, hge, hcm, ?_, ?_⟩⟩
    · simp only [Array.size_append, List.size_toArray, size_zeroCells, hzs, hown.1, hl1, ← Nat.add_mul]
      congr 1
      omega
    · simp only [Array.toList_append, List.append_assoc]
      rw [← List.append_assoc, ← hlen]
      exact List.take_left
  rcases hown.2 with ⟨rfl, rfl⟩ | ⟨g, cap, cur, rfl, hbg, hg, hnc, hcm, hcs, htake⟩
  · have hx : xs = [] := List.eq_nil_of_length_eq_zero (by simpa using hown.1)
    subst hx
    have hr := run_append_nil (P := P) w t ty e i z ht hi hz ad 1 c news hl1 hnews (by omega) (by omega) (by have hb := hbytes; simp only [Nat.zero_add] at hb; omega)
    have hgr := grown 0 (by omega)
    simp only [Nat.zero_add, List.nil_append, Array.empty_append] at hgr ⊢
    exact ⟨_, _, _, hr, hgr, (Frm.refl _ _).drew.alloc _, .inr (Nat.le_refl _)⟩
  · by_cases hroom : n + 1 ≤ cap
    · have hfit : n * i.size + news.length ≤ cur.size := by rw [hl1, hcs, ← Nat.add_mul]; exact Nat.mul_le_mul_right _ hroom
      have hr := run_append_room (P := P) w t ty e i ht hi g n cap cur hg ad 1 c news hl1 hnews h1 hroom hfit
      refine ⟨_, _, _, hr, ⟨hlen, .inr ⟨g, cap, _, rfl, Nat.zero_le _, setRow_heap w g cur _ e _ hg, hroom, hcm, ?_, ?_⟩⟩, (Frm.refl _ _).setRow (.inl (Blk.some.2 rfl)) _, .inl (Blk.some.2 rfl)⟩
      · simp only [List.size_toArray, List.length_append, List.length_take, List.length_drop, Array.length_toList]
        omega
      · rw [htake, ← hlen]
        exact List.take_left
    · have holds : ∀ j u, xs[j]? = some u → w.cell? ((⟨g, 0, none⟩ : Addr).add j) = some u := hown.cells (g := g) rfl
      have hr := run_append_grow (P := P) w t ty e i z ht hi hz ⟨g, 0, none⟩ n cap xs hown.1 holds ad 1 c news hl1 hnews (by omega) (by omega) (growslice_fits (by omega) hbytes)
      exact ⟨_, _, _, hr, grown cap (by omega), (Frm.refl _ _).drew.alloc _, .inr (Nat.le_refl _)⟩
theorem wp_append_one {K : Act → World → Prop} (s x : Operand) (t : TypeId)
    (ho : o.op = .call { callee := .builtin .append, args := #[s, x], argTypes := #[t, t] }) (e : TypeId) (i : TypeInfo) (z : Value) (size bytes : Nat) (ht : P.underlying t = some (.slice e)) (hi : P.info? e = some i) (hz : i.zero = some z)
    (hsize : i.size = size) (hby : i.bytes = bytes) (hzs : z.cells.size = size) (hsz : 0 < size) (v : Value) (n : Nat) (xs : List Value) (hs : a.eval s = v) (hown : w.ownsRow 0 e size v n xs)
    (ad : Addr) (c : Nat) (news : List Value) (hx : a.eval x = .slice (some ad) 1 c) (hl : news.length = size) (hnews : ∀ j u, news[j]? = some u → w.cell? (ad.add j) = some u) (h1 : ∀ u ∈ news, u.oneCell' = true) (hbytes : (n + 1) * bytes ≤ 140737488355328) (hn : n + 1 ≤ maxLen)
    (h : ∀ g cap w', w'.ownsRow 0 e size (.slice (some ⟨g, 0, none⟩) (n + 1) cap) (n + 1) (xs ++ news) → Frm (Blk v) w w' → (Blk v g ∨ w.heap.size ≤ g) → K (a.put o.dst (.slice (some ⟨g, 0, none⟩) (n + 1) cap)) w') : o.wp P a w K Q := by
  obtain ⟨g, cap, w', hr, h2, h3, h4⟩ := run_append_one (P := P) (w := w) t o.type e i z size bytes ht hi hz hsize hby hzs hsz v n xs hown ad c news hl hnews h1 hbytes hn
  unfold Oper.wp execOp
  simp only [ho, resolve, invoke, builtin, Sem.run_bind, Sem.run_pure, Result.andThen_ok, List.map_toArray, List.map_cons, List.map_nil, hs, hx, hr]
  exact h g cap w' h2 h3 h4
theorem wpList_append_one (hgd : o.guard = none) (s x : Operand) (t : TypeId)
    (ho : o.op = .call { callee := .builtin .append, args := #[s, x], argTypes := #[t, t] }) (e : TypeId) (i : TypeInfo) (z : Value) (size bytes : Nat) (ht : P.underlying t = some (.slice e)) (hi : P.info? e = some i) (hz : i.zero = some z)
    (hsize : i.size = size) (hby : i.bytes = bytes) (hzs : z.cells.size = size) (hsz : 0 < size) (v : Value) (n : Nat) (xs : List Value) (hs : a.eval s = v) (hown : w.ownsRow 0 e size v n xs)
    (ad : Addr) (c : Nat) (news : List Value) (hx : a.eval x = .slice (some ad) 1 c) (hl : news.length = size) (hnews : ∀ j u, news[j]? = some u → w.cell? (ad.add j) = some u) (h1 : ∀ u ∈ news, u.oneCell' = true) (hbytes : (n + 1) * bytes ≤ 140737488355328) (hn : n + 1 ≤ maxLen)
    (h : ∀ g cap w', w'.ownsRow 0 e size (.slice (some ⟨g, 0, none⟩) (n + 1) cap) (n + 1) (xs ++ news) → Frm (Blk v) w w' → (Blk v g ∨ w.heap.size ≤ g) → wpList P ops Q rest (a.put o.dst (.slice (some ⟨g, 0, none⟩) (n + 1) cap)) w') : wpList P ops Q (o :: rest) a w :=
  wpList_plain hgd fun _ hK => wp_append_one s x t ho e i z size bytes ht hi hz hsize hby hzs hsz v n xs hs hown ad c news hx hl hnews h1 hbytes hn fun g cap w' h2 h3 h4 => hK _ _ (h g cap w' h2 h3 h4)
/-- 'string(b[off:off+m])', b a slice of bytes that owns its row. -/
theorem run_bytes_string {e : TypeId} {v : Value} {l : List UInt8} (h : Bts w e v l) (src dst : TypeId) (hs : P.underlying src = some (.slice e)) (he : P.underlying e = some (.int .u8)) (hd : P.underlying dst = some .string)
    (dp : Option Addr) (m cp off : Nat) (hoff : off + m ≤ l.length) (hdp : 0 < m → ∃ g n cap, v = .slice (some ⟨g, 0, none⟩) n cap ∧ dp = some ⟨g, off, none⟩) :
    (convert src dst (.slice dp m cp)).run P w = .ok (.string ⟨((l.drop off).take m).toArray⟩) w := by
  by_cases h0 : m = 0
  · subst h0
    rw [run_convert_bytes_string w src dst e dp 0 cp hs he hd]
    cases dp <;> simp [Conv.bytesToString, loadCells, loadCellsFrom] <;> rfl
  · obtain ⟨g, n, cap, rfl, rfl⟩ := hdp (by omega)
    have hx : ((l.drop off).take m).length = m := by simp; omega
    have := run_convert_bytes_arg (P := P) w src e hs he g off m cp (((l.drop off).take m).map fun b => (b.toNat : Int)) (by simp; omega) (fun i hi => by
      have hc := World.ownsRow.cells (h : w.ownsRow 0 e 1 _ _ _) (g := g) (by
        rcases h.cases with ⟨hv, _⟩ | ⟨g', _, _, hv, _⟩
        · cases hv
        · cases hv; rfl) (off + i) (bv (l[off + i]'(by omega))) (by simp [List.getElem?_eq_getElem (show off + i < l.length by omega)])
      rw [Addr.add_lit, Nat.zero_add] at hc
      rw [hc]
      simp [bv, List.getD, hi, List.getElem?_eq_getElem (show off + i < l.length by omega)]) dst hd
    rw [this]
    congr 2
    simp only [strOfNums]
    congr 2
    rw [List.map_map]
    conv => rhs; rw [← List.map_id ((l.drop off).take m)]
    apply List.map_congr_left
    intro b _
    simp
end
end Go.Proofs.YtgnjakaamgeibaaGreatDoor
