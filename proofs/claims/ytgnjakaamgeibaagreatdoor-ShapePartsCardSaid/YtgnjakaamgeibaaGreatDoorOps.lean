/-
  Operations on shapes: plain lists. Nothing of the program is imported. Conditions: none.
-/
import Derived.Test.YtgnjakaamgeibaaGreatDoorShp
namespace Go.Proofs.YtgnjakaamgeibaaGreatDoor
theorem ba_ext {a b : ByteArray} (h : a.data.toList = b.data.toList) : a = b := ByteArray.ext (Array.ext' h)
theorem ext_toList (a : ByteArray) (i j : Nat) : (a.extract i j).data.toList = (a.data.toList.take j).drop i := by
  rw [ByteArray.data_extract, Array.toList_extract, List.extract_eq_take_drop, List.drop_take]
/-- How many bytes are equal from the beginning on. -/
def cpre : List UInt8 → List UInt8 → Nat
  | x :: a, y :: b => if x = y then cpre a b + 1 else 0
  | _, _ => 0
def csuf (a b : List UInt8) : Nat := cpre a.reverse b.reverse
theorem cpre_le : ∀ (a b : List UInt8), cpre a b ≤ a.length ∧ cpre a b ≤ b.length
  | [], _ => by unfold cpre; simp
  | _ :: _, [] => by unfold cpre; simp
  | x :: a, y :: b => by
    rw [cpre]
    have := cpre_le a b
    split
    · simp only [List.length_cons]; omega
    · simp
theorem csuf_le (a b : List UInt8) : csuf a b ≤ a.length ∧ csuf a b ≤ b.length := by
  have := cpre_le a.reverse b.reverse
  rw [List.length_reverse, List.length_reverse] at this
  exact this
def joinS (a b : Shp) : Shp :=
  if empB a && empB b then none' else if empB a then b else if empB b then a
  else ⟨min (lowS a) (lowS b), max (highS a) (highS b), iOr (ownS a) (ownS b), a.bg.extract 0 (cpre a.b b.b), a.en.extract (a.en.size - csuf a.e b.e) a.en.size⟩
def meetM (a b : Shp) : Shp := ⟨max (lowS a) (lowS b), min (highS a) (highS b), iAnd (ownS a) (ownS b), if a.bg.size < b.bg.size then b.bg else a.bg, if a.en.size < b.en.size then b.en else a.en⟩
def meetS (a b : Shp) : Shp :=
  if empB a || empB b then none'
  else if !(a.b.isPrefixOf (meetM a b).b) || !(b.b.isPrefixOf (meetM a b).b) || !(a.e.isSuffixOf (meetM a b).e) || !(b.e.isSuffixOf (meetM a b).e) || empB (meetM a b) then none' else meetM a b
def subI (c d : Int) : Bool := iAndNot c d == 0
def partS (a : Shp) : Shp := if empB a then none' else ⟨0, highS a, ownS a, ⟨#[]⟩, ⟨#[]⟩⟩
theorem size_list (a : ByteArray) : a.data.toList.length = a.size := by rw [Array.length_toList]; rfl
/-- What the words of a shape say of a text. -/
theorem in_low {a : Shp} {t : List UInt8} (h : inS a t = true) : lowS a ≤ (t.length : Int) ∧ (t.length : Int) ≤ highS a ∧ clsIn t (ownS a) = true ∧ a.b <+: t ∧ a.e <:+ t ∧ t.length ≤ 200 ∧ chrs t = true := by
  obtain ⟨h1, h2, h3, h4, h5, h6, h7⟩ := inS_iff.1 h
  have l1 := h6.length_le
  have l2 := h7.length_le
  refine ⟨by unfold lowS; omega, by unfold highS; omega, ?_, h6, h7, h1, h2⟩
  unfold ownS
  rw [clsIn_own, h5, h2]; rfl
theorem in_of {a : Shp} {t : List UInt8} (h1 : a.lo ≤ (t.length : Int)) (h2 : (t.length : Int) ≤ a.hi) (h3 : clsIn t a.cl = true) (h4 : a.b <+: t) (h5 : a.e <:+ t) (h6 : t.length ≤ 200) (h7 : chrs t = true) : inS a t = true := inS_iff.2 ⟨h6, h7, h1, h2, h3, h4, h5⟩
theorem part_in {a : Shp} {t : List UInt8} (h : inS a t = true) (i j : Nat) : inS (partS a) (seg t i j) = true := by
  obtain ⟨h1, h2, h3, h4, h5, h6, h7⟩ := in_low h
  unfold partS
  rw [if_neg (by rw [emp_of h]; simp)]
  have hsub : ∀ {P : UInt8 → Bool}, t.all P = true → (seg t i j).all P = true := by
    intro P hP
    rw [List.all_eq_true] at hP ⊢
    intro x hx
    unfold seg at hx
    exact hP x (List.mem_of_mem_take (List.mem_of_mem_drop hx))
  have hl : (seg t i j).length ≤ t.length := by unfold seg; rw [List.length_drop, List.length_take]; omega
  exact in_of (by simp only; omega) (by simp only; omega) (hsub h3) ⟨_, rfl⟩ ⟨_, List.append_nil _⟩ (by omega) (hsub h7)
def upC (c : UInt8) : UInt8 := if 97 ≤ c.toNat ∧ c.toNat ≤ 122 then c - 32 else c
def loC (c : UInt8) : UInt8 := if 65 ≤ c.toNat ∧ c.toNat ≤ 90 then c + 32 else c
def baM (f : UInt8 → UInt8) (a : ByteArray) : ByteArray := ⟨(a.data.toList.map f).toArray⟩
def casS (from' to' : Int) (f : UInt8 → UInt8) (a : Shp) : Shp :=
  if empB a then none' else ⟨lowS a, highS a, if iAnd (ownS a) from' = 0 then ownS a else iOr (iAndNot (ownS a) from') to', baM f a.bg, baM f a.en⟩
theorem cas_in {a : Shp} {t : List UInt8} (fr to' : Nat) (f : UInt8 → UInt8) (hfr : fr ≤ 6) (hto : to' ≤ 6) (hf : ∀ c, clsB c ≠ 0 → clsB (f c) = if clsB c = fr then to' else clsB c) (ht0 : to' ≠ 0) (h : inS a t = true) : inS (casS (2 ^ fr) (2 ^ to') f a) (t.map f) = true := by
  obtain ⟨h1, h2, h3, h4, h5, h6, h7⟩ := in_low h
  unfold casS
  rw [if_neg (by rw [emp_of h]; simp)]
  have hch : ∀ x ∈ t, clsB x ≠ 0 := by
    unfold chrs at h7
    rw [List.all_eq_true] at h7
    intro x hx
    simpa using h7 x hx
  refine in_of (by rw [List.length_map]; exact h1) (by rw [List.length_map]; exact h2) ?_ ?_ ?_ (by rw [List.length_map]; exact h6) ?_
  · show clsIn (t.map f) (if iAnd (ownS a) (2 ^ fr) = 0 then ownS a else iOr (iAndNot (ownS a) (2 ^ fr)) (2 ^ to')) = true
    unfold clsIn at h3 ⊢
    rw [List.all_eq_true] at h3 ⊢
    intro y hy
    obtain ⟨x, hx, rfl⟩ := List.mem_map.1 hy
    have hb := h3 x hx
    rw [hf x (hch x hx)]
    split
    · rename_i hz
      have := bt_and (ownS a) (2 ^ fr) (clsB x)
      rw [hz, bt_zero, hb, bt_pow _ _ hfr (by have := cls_le x; omega)] at this
      have hne : clsB x ≠ fr := by simpa using this
      rw [if_neg hne]
      exact hb
    · rw [bt_or]
      by_cases hc : clsB x = fr
      · rw [if_pos hc, bt_pow _ _ hto (by omega)]
        simp
      · rw [if_neg hc, bt_andNot _ _ _ (by have := cls_le x; omega), hb, bt_pow _ _ hfr (by have := cls_le x; omega), decide_eq_false hc]
        rfl
  · show ((a.bg.data.toList.map f).toArray).toList <+: t.map f
    exact h4.map f
  · show ((a.en.data.toList.map f).toArray).toList <:+ t.map f
    exact h5.map f
  · unfold chrs
    rw [List.all_eq_true]
    intro y hy
    obtain ⟨x, hx, rfl⟩ := List.mem_map.1 hy
    rw [hf x (hch x hx), bne_iff_ne]
    split
    · exact ht0
    · exact hch x hx
set_option maxRecDepth 100000 in
theorem up_cls (c : UInt8) : clsB (upC c) = if clsB c = 3 then 2 else clsB c := by
  have key : ∀ n : Fin 256, clsB (upC (UInt8.ofNat n.1)) = if clsB (UInt8.ofNat n.1) = 3 then 2 else clsB (UInt8.ofNat n.1) := by decide
  have := key ⟨c.toNat, c.toNat_lt⟩
  rw [show UInt8.ofNat c.toNat = c from UInt8.ofNat_toNat] at this
  exact this
set_option maxRecDepth 100000 in
theorem lo_cls (c : UInt8) : clsB (loC c) = if clsB c = 2 then 3 else clsB c := by
  have key : ∀ n : Fin 256, clsB (loC (UInt8.ofNat n.1)) = if clsB (UInt8.ofNat n.1) = 2 then 3 else clsB (UInt8.ofNat n.1) := by decide
  have := key ⟨c.toNat, c.toNat_lt⟩
  rw [show UInt8.ofNat c.toNat = c from UInt8.ofNat_toNat] at this
  exact this
def cbI (k : Int) : Int := if k = 4 then 12 else if k = 7 then 110 else 2 ^ k.toNat
def clP (p : Pc) : Int := if p.cls = 0 then bitsI p.t else cbI p.cls
def clL (ps : List Pc) : Int := ps.foldl (fun v p => iOr v (clP p)) 0
/-- The text of a piece that is a literal. -/
def litT : Option Pc → ByteArray
  | some p => if p.cls = 0 then p.txt else ⟨#[]⟩
  | none => ⟨#[]⟩
def patS (ps : List Pc) : Shp :=
  if !rightB ps then none' else if 200 < sumL leastP ps then none' else ⟨sumL leastP ps, min (sumL mostP ps) 200, clL ps, litT ps.head?, litT ps.getLast?⟩
end Go.Proofs.YtgnjakaamgeibaaGreatDoor
