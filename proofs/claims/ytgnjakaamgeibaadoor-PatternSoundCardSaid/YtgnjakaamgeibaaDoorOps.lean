/-
  Operations on shapes: plain lists. Nothing of the program is imported. Conditions: none.
-/
import Derived.Test.YtgnjakaamgeibaaDoorShp
namespace Go.Proofs.YtgnjakaamgeibaaDoor

theorem ba_ext {a b : ByteArray} (h : a.data.toList = b.data.toList) : a = b := ByteArray.ext (Array.ext' h)
theorem ext_toList (a : ByteArray) (i j : Nat) : (a.extract i j).data.toList = (a.data.toList.take j).drop i := by
  rw [ByteArray.data_extract, Array.toList_extract, List.extract_eq_take_drop, List.drop_take]
/-- How many bytes are equal from the beginning on. -/
def cpre : List UInt8 → List UInt8 → Nat
  | x :: a, y :: b => if x = y then cpre a b + 1 else 0
  | _, _ => 0
def csuf (a b : List UInt8) : Nat := cpre a.reverse b.reverse
theorem cpre_le : ∀ (a b : List UInt8), cpre a b ≤ a.length ∧ cpre a b ≤ b.length
  | [], _ => by unfold cpre; simp
  | _ :: _, [] => by unfold cpre; simp
  | x :: a, y :: b => by
    rw [cpre]
    have := cpre_le a b
    split
    · simp only [List.length_cons]; omega
    · simp
theorem cpre_comm : ∀ (a b : List UInt8), cpre a b = cpre b a
  | [], [] => rfl
  | [], _ :: _ => rfl
  | _ :: _, [] => rfl
  | x :: a, y :: b => by
    rw [cpre, cpre, cpre_comm a b]
    by_cases h : x = y
    · rw [if_pos h, if_pos h.symm]
    · rw [if_neg h, if_neg (fun e => h e.symm)]
theorem cpre_take : ∀ (a b : List UInt8), a.take (cpre a b) = b.take (cpre a b)
  | [], [] => rfl
  | [], _ :: _ => by simp [cpre]
  | _ :: _, [] => by simp [cpre]
  | x :: a, y :: b => by
    rw [cpre]
    split
    · rename_i h
      rw [List.take_succ_cons, List.take_succ_cons, cpre_take a b, h]
    · simp
theorem csuf_le (a b : List UInt8) : csuf a b ≤ a.length ∧ csuf a b ≤ b.length := by
  have := cpre_le a.reverse b.reverse
  rw [List.length_reverse, List.length_reverse] at this
  exact this
theorem csuf_comm (a b : List UInt8) : csuf a b = csuf b a := cpre_comm _ _
theorem csuf_drop (a b : List UInt8) : a.drop (a.length - csuf a b) = b.drop (b.length - csuf a b) := by
  have h := cpre_take a.reverse b.reverse
  have h2 := congrArg List.reverse h
  rw [List.reverse_take, List.reverse_take, List.reverse_reverse, List.reverse_reverse, List.length_reverse, List.length_reverse] at h2
  exact h2

def joinS (a b : Shp) : Shp :=
  if empB a && empB b then none' else if empB a then b else if empB b then a
  else ⟨min (lowS a) (lowS b), max (highS a) (highS b), iOr (ownS a) (ownS b), a.bg.extract 0 (cpre a.b b.b), a.en.extract (a.en.size - csuf a.e b.e) a.en.size⟩
def meetM (a b : Shp) : Shp := ⟨max (lowS a) (lowS b), min (highS a) (highS b), iAnd (ownS a) (ownS b), if a.bg.size < b.bg.size then b.bg else a.bg, if a.en.size < b.en.size then b.en else a.en⟩
def meetS (a b : Shp) : Shp :=
  if empB a || empB b then none'
  else if !(a.b.isPrefixOf (meetM a b).b) || !(b.b.isPrefixOf (meetM a b).b) || !(a.e.isSuffixOf (meetM a b).e) || !(b.e.isSuffixOf (meetM a b).e) || empB (meetM a b) then none' else meetM a b
def subI (c d : Int) : Bool := iAndNot c d == 0
def withinB (a b : Shp) : Bool :=
  if empB a then true
  else if empB b || decide (lowS a < lowS b) || decide (highS b < highS a) || !(subI (ownS a) (ownS b)) then false
  else b.b.isPrefixOf a.b && b.e.isSuffixOf a.e
def partS (a : Shp) : Shp := if empB a then none' else ⟨0, highS a, ownS a, ⟨#[]⟩, ⟨#[]⟩⟩

theorem size_list (a : ByteArray) : a.data.toList.length = a.size := by rw [Array.length_toList]; rfl
theorem sub_bt {c d : Int} (h : subI c d = true) (k : Nat) (hk : k < 64) (hc : bt c k = true) : bt d k = true := by
  unfold subI at h
  rw [beq_iff_eq] at h
  have := bt_andNot c d k hk
  rw [h, bt_zero, hc] at this
  simpa using this
theorem sub_of {c d : Int} (h : ∀ k, k < 64 → bt c k = true → bt d k = true) : subI c d = true := by
  unfold subI
  rw [beq_iff_eq]
  refine bt_ext (rng_andNot _ _) (by decide) fun k hk => ?_
  rw [bt_andNot _ _ _ hk, bt_zero]
  cases hc : bt c k
  · rfl
  · rw [h k hk hc]; rfl
theorem clsIn_bt {l : List UInt8} {c d : Int} (h : ∀ k, k ≤ 6 → bt c k = true → bt d k = true) (hl : clsIn l c = true) : clsIn l d = true := by
  unfold clsIn at *
  rw [List.all_eq_true] at *
  exact fun x hx => h _ (cls_le x) (hl x hx)
theorem clsIn_sub {l : List UInt8} {c d : Int} (h : subI c d = true) (hl : clsIn l c = true) : clsIn l d = true := clsIn_bt (fun k hk hb => sub_bt h k (by omega) hb) hl

/-- What the words of a shape say of a text. -/
theorem in_low {a : Shp} {t : List UInt8} (h : inS a t = true) : lowS a ≤ (t.length : Int) ∧ (t.length : Int) ≤ highS a ∧ clsIn t (ownS a) = true ∧ a.b <+: t ∧ a.e <:+ t ∧ t.length ≤ 200 ∧ chrs t = true := by
  obtain ⟨h1, h2, h3, h4, h5, h6, h7⟩ := inS_iff.1 h
  have l1 := h6.length_le
  have l2 := h7.length_le
  refine ⟨by unfold lowS; omega, by unfold highS; omega, ?_, h6, h7, h1, h2⟩
  unfold ownS
  rw [clsIn_own, h5, h2]; rfl
theorem in_of {a : Shp} {t : List UInt8} (h1 : a.lo ≤ (t.length : Int)) (h2 : (t.length : Int) ≤ a.hi) (h3 : clsIn t a.cl = true) (h4 : a.b <+: t) (h5 : a.e <:+ t) (h6 : t.length ≤ 200) (h7 : chrs t = true) : inS a t = true := inS_iff.2 ⟨h6, h7, h1, h2, h3, h4, h5⟩
theorem none_no (t : List UInt8) : inS none' t = false := by
  cases h : inS none' t
  · rfl
  · obtain ⟨-, -, h3, h4, -⟩ := inS_iff.1 h
    have : (1 : Int) ≤ t.length := h3
    have : (t.length : Int) ≤ 0 := h4
    omega
theorem none_emp : empB none' = true := emp_iff.2 none_no

/-! ### Join -/
theorem join_in {a b : Shp} {t : List UInt8} (h : inS a t = true ∨ inS b t = true) : inS (joinS a b) t = true := by
  unfold joinS
  cases ha : empB a <;> cases hb : empB b
  · simp only [Bool.false_and, Bool.false_eq_true, if_false]
    rcases h with h | h
    · obtain ⟨h1, h2, h3, h4, h5, h6, h7⟩ := in_low h
      refine in_of (by simp only; omega) (by simp only; omega) (clsIn_bt (fun k _ e => by simp only [bt_or, e, Bool.true_or]) h3) ?_ ?_ h6 h7
      · show (a.bg.extract 0 _).data.toList <+: t
        rw [ext_toList, List.drop_zero]
        exact (List.take_prefix _ _).trans h4
      · show (a.en.extract _ _).data.toList <:+ t
        rw [ext_toList, ← size_list, List.take_length]
        exact (List.drop_suffix _ _).trans h5
    · obtain ⟨h1, h2, h3, h4, h5, h6, h7⟩ := in_low h
      refine in_of (by simp only; omega) (by simp only; omega) (clsIn_bt (fun k _ e => by simp only [bt_or, e, Bool.or_true]) h3) ?_ ?_ h6 h7
      · show (a.bg.extract 0 _).data.toList <+: t
        rw [ext_toList, List.drop_zero, cpre_take]
        exact (List.take_prefix _ _).trans h4
      · show (a.en.extract _ _).data.toList <:+ t
        rw [ext_toList, ← size_list, List.take_length, csuf_drop]
        exact (List.drop_suffix _ _).trans h5
  · simp only [Bool.false_and, Bool.false_eq_true, if_false, if_true]
    rcases h with h | h
    · exact h
    · rw [emp_of h] at hb; cases hb
  · simp only [Bool.and_false, Bool.false_eq_true, if_false, if_true]
    rcases h with h | h
    · rw [emp_of h] at ha; cases ha
    · exact h
  · rcases h with h | h
    · rw [emp_of h] at ha; cases ha
    · rw [emp_of h] at hb; cases hb
theorem or_comm' (a b : Int) : iOr a b = iOr b a := by unfold iOr; rw [BitVec.or_comm]
theorem and_comm' (a b : Int) : iAnd a b = iAnd b a := by unfold iAnd; rw [BitVec.and_comm]
theorem join_comm {a b : Shp} (ha : empB a = false) (hb : empB b = false) : joinS a b = joinS b a := by
  unfold joinS
  rw [ha, hb]
  simp only [Bool.false_and, Bool.false_eq_true, if_false]
  rw [or_comm', Int.min_comm, Int.max_comm]
  have e1 : a.bg.extract 0 (cpre a.b b.b) = b.bg.extract 0 (cpre b.b a.b) := by
    apply ba_ext
    rw [ext_toList, ext_toList, List.drop_zero, List.drop_zero, cpre_take, cpre_comm]
  have e2 : a.en.extract (a.en.size - csuf a.e b.e) a.en.size = b.en.extract (b.en.size - csuf b.e a.e) b.en.size := by
    apply ba_ext
    rw [ext_toList, ext_toList, ← size_list, ← size_list, List.take_length, List.take_length, csuf_drop, csuf_comm]
  rw [e1, e2]

/-! ### Meet -/
theorem pre_max {a b t : List UInt8} (ha : a <+: t) (hb : b <+: t) (h : a.length ≤ b.length) : a <+: b := List.prefix_of_prefix_length_le ha hb h
theorem suf_max {a b t : List UInt8} (ha : a <:+ t) (hb : b <:+ t) (h : a.length ≤ b.length) : a <:+ b := List.suffix_of_suffix_length_le ha hb h
theorem meetM_b (a b : Shp) : (meetM a b).b = if a.b.length < b.b.length then b.b else a.b := by
  show (if a.bg.size < b.bg.size then b.bg else a.bg).data.toList = _
  rw [← size_list, ← size_list]
  split <;> rfl
theorem meetM_e (a b : Shp) : (meetM a b).e = if a.e.length < b.e.length then b.e else a.e := by
  show (if a.en.size < b.en.size then b.en else a.en).data.toList = _
  rw [← size_list, ← size_list]
  split <;> rfl
theorem meet_ok {a b : Shp} (ha : empB a = false) (hb : empB b = false) (h1 : a.b <+: (meetM a b).b) (h2 : b.b <+: (meetM a b).b) (h3 : a.e <:+ (meetM a b).e) (h4 : b.e <:+ (meetM a b).e) (h5 : empB (meetM a b) = false) : meetS a b = meetM a b := by
  unfold meetS
  rw [ha, hb, h5, List.isPrefixOf_iff_prefix.2 h1, List.isPrefixOf_iff_prefix.2 h2, List.isSuffixOf_iff_suffix.2 h3, List.isSuffixOf_iff_suffix.2 h4]
  simp
theorem meetM_in {a b : Shp} {t : List UInt8} (h : inS a t = true) (g : inS b t = true) : inS (meetM a b) t = true ∧ a.b <+: (meetM a b).b ∧ b.b <+: (meetM a b).b ∧ a.e <:+ (meetM a b).e ∧ b.e <:+ (meetM a b).e := by
  obtain ⟨h1, h2, h3, h4, h5, h6, h7⟩ := in_low h
  obtain ⟨g1, g2, g3, g4, g5, -, -⟩ := in_low g
  refine ⟨in_of (by unfold meetM; simp only; omega) (by unfold meetM; simp only; omega) ?_ ?_ ?_ h6 h7, ?_, ?_, ?_, ?_⟩
  · unfold clsIn at h3 g3 ⊢
    rw [List.all_eq_true] at h3 g3 ⊢
    intro x hx
    show bt (iAnd (ownS a) (ownS b)) _ = true
    rw [bt_and, h3 x hx, g3 x hx]; rfl
  · rw [meetM_b]; split <;> assumption
  · rw [meetM_e]; split <;> assumption
  · rw [meetM_b]; split
    · exact pre_max h4 g4 (by omega)
    · exact List.prefix_rfl
  · rw [meetM_b]; split
    · exact List.prefix_rfl
    · exact pre_max g4 h4 (by omega)
  · rw [meetM_e]; split
    · exact suf_max h5 g5 (by omega)
    · exact List.suffix_rfl
  · rw [meetM_e]; split
    · exact List.suffix_rfl
    · exact suf_max g5 h5 (by omega)
theorem meet_cases (a b : Shp) : meetS a b = none' ∨ (empB a = false ∧ empB b = false ∧ a.b <+: (meetM a b).b ∧ b.b <+: (meetM a b).b ∧ a.e <:+ (meetM a b).e ∧ b.e <:+ (meetM a b).e ∧ empB (meetM a b) = false ∧ meetS a b = meetM a b) := by
  unfold meetS
  split
  · exact .inl rfl
  split
  · exact .inl rfl
  · rename_i h1 h2
    right
    simp only [Bool.or_eq_true, not_or, Bool.not_eq_true, Bool.not_eq_true', Bool.not_eq_false] at h1 h2
    exact ⟨h1.1, h1.2, List.isPrefixOf_iff_prefix.1 h2.1.1.1.1, List.isPrefixOf_iff_prefix.1 h2.1.1.1.2, List.isSuffixOf_iff_suffix.1 h2.1.1.2, List.isSuffixOf_iff_suffix.1 h2.1.2, h2.2, rfl⟩
theorem meetM_out {a b : Shp} {t : List UInt8} (h : inS (meetM a b) t = true) (h1 : a.b <+: (meetM a b).b) (h2 : b.b <+: (meetM a b).b) (h3 : a.e <:+ (meetM a b).e) (h4 : b.e <:+ (meetM a b).e) : inS a t = true ∧ inS b t = true := by
  obtain ⟨g1, g2, g3, g4, g5, g6, g7⟩ := inS_iff.1 h
  have k1 : max (lowS a) (lowS b) ≤ (t.length : Int) := g3
  have k2 : (t.length : Int) ≤ min (highS a) (highS b) := g4
  have k3 : clsIn t (iAnd (ownS a) (ownS b)) = true := g5
  have la : a.lo ≤ lowS a := by unfold lowS; omega
  have lb : b.lo ≤ lowS b := by unfold lowS; omega
  have ha : highS a ≤ a.hi := by unfold highS; omega
  have hb : highS b ≤ b.hi := by unfold highS; omega
  refine ⟨in_of (by omega) (by omega) (clsIn_bt (fun k _ e => ?_) k3) (h1.trans g6) (h3.trans g7) g1 g2, in_of (by omega) (by omega) (clsIn_bt (fun k _ e => ?_) k3) (h2.trans g6) (h4.trans g7) g1 g2⟩
  · unfold ownS at e
    rw [bt_and, bt_and, Bool.and_eq_true, Bool.and_eq_true] at e
    exact e.1.1
  · unfold ownS at e
    rw [bt_and, bt_and, bt_and, Bool.and_eq_true, Bool.and_eq_true, Bool.and_eq_true] at e
    exact e.2.1
theorem meet_in (a b : Shp) (t : List UInt8) : inS (meetS a b) t = (inS a t && inS b t) := by
  rw [Bool.eq_iff_iff, Bool.and_eq_true]
  constructor
  · intro h
    rcases meet_cases a b with e | ⟨-, -, h1, h2, h3, h4, -, e⟩
    · rw [e, none_no] at h; cases h
    · rw [e] at h
      exact meetM_out h h1 h2 h3 h4
  · rintro ⟨h, g⟩
    obtain ⟨h0, h1, h2, h3, h4⟩ := meetM_in h g
    rw [meet_ok (emp_of h) (emp_of g) h1 h2 h3 h4 (emp_of h0)]
    exact h0
theorem meetM_comm {a b : Shp} (_h1 : a.b <+: (meetM a b).b) (h2 : b.b <+: (meetM a b).b) (_h3 : a.e <:+ (meetM a b).e) (h4 : b.e <:+ (meetM a b).e) : meetM a b = meetM b a := by
  have e1 : (if a.bg.size < b.bg.size then b.bg else a.bg) = (if b.bg.size < a.bg.size then a.bg else b.bg) := by
    rw [meetM_b] at h2
    by_cases g1 : a.bg.size < b.bg.size
    · rw [if_pos g1, if_neg (by omega)]
    · rw [if_neg g1]
      by_cases g2 : b.bg.size < a.bg.size
      · rw [if_pos g2]
      · rw [if_neg g2]
        have s1 : a.b.length = a.bg.size := size_list _
        have s2 : b.b.length = b.bg.size := size_list _
        rw [if_neg (by omega)] at h2
        exact (ba_ext (h2.eq_of_length (by omega))).symm
  have e2 : (if a.en.size < b.en.size then b.en else a.en) = (if b.en.size < a.en.size then a.en else b.en) := by
    rw [meetM_e] at h4
    by_cases g1 : a.en.size < b.en.size
    · rw [if_pos g1, if_neg (by omega)]
    · rw [if_neg g1]
      by_cases g2 : b.en.size < a.en.size
      · rw [if_pos g2]
      · rw [if_neg g2]
        have s1 : a.e.length = a.en.size := size_list _
        have s2 : b.e.length = b.en.size := size_list _
        rw [if_neg (by omega)] at h4
        exact (ba_ext (h4.eq_of_length (by omega))).symm
  unfold meetM
  rw [e1, e2, and_comm', Int.max_comm, Int.min_comm]
theorem meet_comm (a b : Shp) : meetS a b = meetS b a := by
  rcases meet_cases a b with e | ⟨ha, hb, h1, h2, h3, h4, h5, e⟩
  · rcases meet_cases b a with f | ⟨ha, hb, h1, h2, h3, h4, h5, f⟩
    · rw [e, f]
    · have := meetM_comm h1 h2 h3 h4
      rw [this] at h1 h2 h3 h4 h5
      rw [meet_ok hb ha h2 h1 h4 h3 h5, f, ‹meetM b a = meetM a b›]
  · have := meetM_comm h1 h2 h3 h4
    rw [this] at h1 h2 h3 h4 h5
    rw [meet_ok hb ha h2 h1 h4 h3 h5, e, this]

/-! ### Within -/
theorem within_in {a b : Shp} {t : List UInt8} (h : withinB a b = true) (ha : inS a t = true) : inS b t = true := by
  unfold withinB at h
  rw [if_neg (by rw [emp_of ha]; simp)] at h
  split at h
  · cases h
  rename_i hn
  simp only [Bool.or_eq_true, not_or, Bool.not_eq_true, Bool.not_eq_false', decide_eq_false_iff_not] at hn
  rw [Bool.and_eq_true, List.isPrefixOf_iff_prefix, List.isSuffixOf_iff_suffix] at h
  obtain ⟨h1, h2, h3, h4, h5, h6, h7⟩ := in_low ha
  obtain ⟨⟨⟨-, n2⟩, n3⟩, n4⟩ := hn
  have lb : b.lo ≤ lowS b := by unfold lowS; omega
  have hb : highS b ≤ b.hi := by unfold highS; omega
  refine in_of (by omega) (by omega) (clsIn_bt (fun k hk e => ?_) h3) (h.1.trans h4) (h.2.trans h5) h6 h7
  have := sub_bt (by simpa using n4) k (by omega) e
  unfold ownS at this
  rw [bt_and, Bool.and_eq_true] at this
  exact this.1
theorem within_of {a b : Shp} (hb : empB b = false) (h1 : lowS b ≤ lowS a) (h2 : highS a ≤ highS b) (h3 : ∀ k, k < 64 → bt (ownS a) k = true → bt (ownS b) k = true) (h4 : b.b <+: a.b) (h5 : b.e <:+ a.e) : withinB a b = true := by
  unfold withinB
  split
  · rfl
  · rw [hb, decide_eq_false (by omega), decide_eq_false (by omega), sub_of h3, List.isPrefixOf_iff_prefix.2 h4, List.isSuffixOf_iff_suffix.2 h5]
    rfl
theorem within_self (a : Shp) : withinB a a = true := by
  cases h : empB a
  · exact within_of h (Int.le_refl _) (Int.le_refl _) (fun _ _ e => e) List.prefix_rfl List.suffix_rfl
  · unfold withinB; rw [h]; rfl
theorem within_join {a b : Shp} (ha : empB a = false) (hb : empB b = false) : withinB a (joinS a b) = true := by
  obtain ⟨n, -, -, -, s, -, hs⟩ := emp_some ha
  have he := emp_of (join_in (b := b) (.inl hs))
  have hj : joinS a b = ⟨min (lowS a) (lowS b), max (highS a) (highS b), iOr (ownS a) (ownS b), a.bg.extract 0 (cpre a.b b.b), a.en.extract (a.en.size - csuf a.e b.e) a.en.size⟩ := by
    unfold joinS
    rw [ha, hb]
    simp
  have e1 : (joinS a b).b = a.b.take (cpre a.b b.b) := by
    rw [hj]
    show (a.bg.extract 0 _).data.toList = _
    rw [ext_toList, List.drop_zero]
  have e2 : (joinS a b).e = a.e.drop (a.e.length - csuf a.e b.e) := by
    rw [hj]
    show (a.en.extract _ _).data.toList = _
    rw [ext_toList, ← size_list, List.take_length]
  have l1 : (joinS a b).b.length ≤ a.b.length := by rw [e1, List.length_take]; omega
  have l2 : (joinS a b).e.length ≤ a.e.length := by rw [e2, List.length_drop]; omega
  have k1 : (joinS a b).lo = min (lowS a) (lowS b) := by rw [hj]
  have k2 : (joinS a b).hi = max (highS a) (highS b) := by rw [hj]
  have k3 : (joinS a b).cl = iOr (ownS a) (ownS b) := by rw [hj]
  refine within_of he ?_ ?_ (fun k _ e => ?_) (by rw [e1]; exact List.take_prefix _ _) (by rw [e2]; exact List.drop_suffix _ _)
  · have q1 : 0 ≤ lowS a ∧ (a.b.length : Int) ≤ lowS a ∧ (a.e.length : Int) ≤ lowS a := by unfold lowS; omega
    show max (max (max 0 (joinS a b).lo) ((joinS a b).b.length : Int)) ((joinS a b).e.length : Int) ≤ lowS a
    rw [k1]
    omega
  · show highS a ≤ min (joinS a b).hi 200
    rw [k2]
    have : highS a ≤ 200 := by unfold highS; omega
    omega
  · show bt (iAnd (joinS a b).cl 110) k = true
    rw [k3, bt_and, bt_or, e]
    unfold ownS at e
    rw [bt_and, Bool.and_eq_true] at e
    rw [e.2]; rfl
theorem within_meet (a b : Shp) : withinB (meetS a b) a = true ∧ withinB (meetS a b) b = true := by
  rcases meet_cases a b with e | ⟨ha, hb, h1, h2, h3, h4, h5, e⟩
  · have : ∀ c, withinB none' c = true := fun c => by unfold withinB; rw [none_emp]; rfl
    rw [e]
    exact ⟨this a, this b⟩
  · rw [e]
    have q1 : max (lowS a) (lowS b) ≤ lowS (meetM a b) := by
      show _ ≤ max (max (max 0 (max (lowS a) (lowS b))) _) _
      omega
    have q2 : highS (meetM a b) ≤ min (highS a) (highS b) := by
      show min (min (highS a) (highS b)) 200 ≤ _
      omega
    refine ⟨within_of ha (by omega) (by omega) (fun k _ e => ?_) h1 h3, within_of hb (by omega) (by omega) (fun k _ e => ?_) h2 h4⟩
    · have e : bt (iAnd (iAnd (ownS a) (ownS b)) 110) k = true := e
      rw [bt_and, bt_and, Bool.and_eq_true, Bool.and_eq_true] at e
      exact e.1.1
    · have e : bt (iAnd (iAnd (ownS a) (ownS b)) 110) k = true := e
      rw [bt_and, bt_and, Bool.and_eq_true, Bool.and_eq_true] at e
      exact e.1.2

/-! ### Parts -/
theorem part_in {a : Shp} {t : List UInt8} (h : inS a t = true) (i j : Nat) : inS (partS a) (seg t i j) = true := by
  obtain ⟨h1, h2, h3, h4, h5, h6, h7⟩ := in_low h
  unfold partS
  rw [if_neg (by rw [emp_of h]; simp)]
  have hsub : ∀ {P : UInt8 → Bool}, t.all P = true → (seg t i j).all P = true := by
    intro P hP
    rw [List.all_eq_true] at hP ⊢
    intro x hx
    unfold seg at hx
    exact hP x (List.mem_of_mem_take (List.mem_of_mem_drop hx))
  have hl : (seg t i j).length ≤ t.length := by unfold seg; rw [List.length_drop, List.length_take]; omega
  exact in_of (by simp only; omega) (by simp only; omega) (hsub h3) ⟨_, rfl⟩ ⟨_, List.append_nil _⟩ (by omega) (hsub h7)

/-! ### Letters replaced -/
def upC (c : UInt8) : UInt8 := if 97 ≤ c.toNat ∧ c.toNat ≤ 122 then c - 32 else c
def loC (c : UInt8) : UInt8 := if 65 ≤ c.toNat ∧ c.toNat ≤ 90 then c + 32 else c
def baM (f : UInt8 → UInt8) (a : ByteArray) : ByteArray := ⟨(a.data.toList.map f).toArray⟩
def casS (from' to' : Int) (f : UInt8 → UInt8) (a : Shp) : Shp :=
  if empB a then none' else ⟨lowS a, highS a, if iAnd (ownS a) from' = 0 then ownS a else iOr (iAndNot (ownS a) from') to', baM f a.bg, baM f a.en⟩
theorem cas_in {a : Shp} {t : List UInt8} (fr to' : Nat) (f : UInt8 → UInt8) (hfr : fr ≤ 6) (hto : to' ≤ 6) (hf : ∀ c, clsB c ≠ 0 → clsB (f c) = if clsB c = fr then to' else clsB c) (ht0 : to' ≠ 0) (h : inS a t = true) : inS (casS (2 ^ fr) (2 ^ to') f a) (t.map f) = true := by
  obtain ⟨h1, h2, h3, h4, h5, h6, h7⟩ := in_low h
  unfold casS
  rw [if_neg (by rw [emp_of h]; simp)]
  have hch : ∀ x ∈ t, clsB x ≠ 0 := by
    unfold chrs at h7
    rw [List.all_eq_true] at h7
    intro x hx
    simpa using h7 x hx
  refine in_of (by rw [List.length_map]; exact h1) (by rw [List.length_map]; exact h2) ?_ ?_ ?_ (by rw [List.length_map]; exact h6) ?_
  · show clsIn (t.map f) (if iAnd (ownS a) (2 ^ fr) = 0 then ownS a else iOr (iAndNot (ownS a) (2 ^ fr)) (2 ^ to')) = true
    unfold clsIn at h3 ⊢
    rw [List.all_eq_true] at h3 ⊢
    intro y hy
    obtain ⟨x, hx, rfl⟩ := List.mem_map.1 hy
    have hb := h3 x hx
    rw [hf x (hch x hx)]
    split
    · rename_i hz
      have := bt_and (ownS a) (2 ^ fr) (clsB x)
      rw [hz, bt_zero, hb, bt_pow _ _ hfr (by have := cls_le x; omega)] at this
      have hne : clsB x ≠ fr := by simpa using this
      rw [if_neg hne]
      exact hb
    · rw [bt_or]
      by_cases hc : clsB x = fr
      · rw [if_pos hc, bt_pow _ _ hto (by omega)]
        simp
      · rw [if_neg hc, bt_andNot _ _ _ (by have := cls_le x; omega), hb, bt_pow _ _ hfr (by have := cls_le x; omega), decide_eq_false hc]
        rfl
  · show ((a.bg.data.toList.map f).toArray).toList <+: t.map f
    exact h4.map f
  · show ((a.en.data.toList.map f).toArray).toList <:+ t.map f
    exact h5.map f
  · unfold chrs
    rw [List.all_eq_true]
    intro y hy
    obtain ⟨x, hx, rfl⟩ := List.mem_map.1 hy
    rw [hf x (hch x hx), bne_iff_ne]
    split
    · exact ht0
    · exact hch x hx
set_option maxRecDepth 100000 in
theorem up_cls (c : UInt8) : clsB (upC c) = if clsB c = 3 then 2 else clsB c := by
  have key : ∀ n : Fin 256, clsB (upC (UInt8.ofNat n.1)) = if clsB (UInt8.ofNat n.1) = 3 then 2 else clsB (UInt8.ofNat n.1) := by decide
  have := key ⟨c.toNat, c.toNat_lt⟩
  rw [show UInt8.ofNat c.toNat = c from UInt8.ofNat_toNat] at this
  exact this
set_option maxRecDepth 100000 in
theorem lo_cls (c : UInt8) : clsB (loC c) = if clsB c = 2 then 3 else clsB c := by
  have key : ∀ n : Fin 256, clsB (loC (UInt8.ofNat n.1)) = if clsB (UInt8.ofNat n.1) = 2 then 3 else clsB (UInt8.ofNat n.1) := by decide
  have := key ⟨c.toNat, c.toNat_lt⟩
  rw [show UInt8.ofNat c.toNat = c from UInt8.ofNat_toNat] at this
  exact this

/-! ### Patterns -/
def cbI (k : Int) : Int := if k = 4 then 12 else if k = 7 then 110 else 2 ^ k.toNat
def clP (p : Pc) : Int := if p.cls = 0 then bitsI p.t else cbI p.cls
def clL (ps : List Pc) : Int := ps.foldl (fun v p => iOr v (clP p)) 0
/-- The text of a piece that is a literal. -/
def litT : Option Pc → ByteArray
  | some p => if p.cls = 0 then p.txt else ⟨#[]⟩
  | none => ⟨#[]⟩
def patS (ps : List Pc) : Shp :=
  if !rightB ps then none' else if 200 < sumL leastP ps then none' else ⟨sumL leastP ps, min (sumL mostP ps) 200, clL ps, litT ps.head?, litT ps.getLast?⟩
theorem clL_fold : ∀ (ps : List Pc) (v : Int) (k : Nat), bt (ps.foldl (fun v p => iOr v (clP p)) v) k = (bt v k || ps.any fun p => bt (clP p) k)
  | [], v, k => by simp
  | p :: ps, v, k => by rw [List.foldl_cons, clL_fold ps, bt_or, List.any_cons, Bool.or_assoc]
theorem bt_clL {ps : List Pc} {p : Pc} (h : p ∈ ps) (k : Nat) (hk : bt (clP p) k = true) : bt (clL ps) k = true := by
  unfold clL
  rw [clL_fold, Bool.or_eq_true]
  exact .inr (List.any_eq_true.2 ⟨p, h, hk⟩)
theorem cb_ins (c : UInt8) (hc : clsB c ≠ 0) (k : Int) (h1 : 1 ≤ k) (h7 : k ≤ 7) (h : insB (clsB c) k = true) : bt (cbI k) (clsB c) = true := by
  have hk : k = 1 ∨ k = 2 ∨ k = 3 ∨ k = 4 ∨ k = 5 ∨ k = 6 ∨ k = 7 := by omega
  have h4 := cls_four c
  have hb : clsB c = 1 ∨ clsB c = 2 ∨ clsB c = 3 ∨ clsB c = 5 ∨ clsB c = 6 := by have := cls_le c; omega
  rcases hk with rfl | rfl | rfl | rfl | rfl | rfl | rfl <;> rcases hb with e | e | e | e | e <;> rw [e] at h ⊢ <;> revert h <;> decide
theorem fits_cls {p : Pc} {t : List UInt8} (hp : pieceB p = true) (h : fits p t = true) (ht : chrs t = true) : clsIn t (clP p) = true := by
  unfold clsIn
  rw [List.all_eq_true]
  intro c hc
  unfold chrs at ht
  rw [List.all_eq_true] at ht
  have hne : clsB c ≠ 0 := by simpa using ht c hc
  unfold fits at h
  unfold pieceB at hp
  unfold clP
  by_cases h0 : p.cls = 0
  · rw [if_pos h0, beq_iff_eq] at h
    rw [if_pos h0, bt_bits _ _ (by have := cls_le c; omega)]
    rw [h] at hc
    exact List.any_eq_true.2 ⟨c, hc, by simp⟩
  · rw [if_neg h0] at h hp ⊢
    simp only [Bool.and_eq_true, decide_eq_true_eq] at h hp
    unfold consB at h
    rw [List.all_eq_true] at h
    exact cb_ins c hne p.cls hp.1.1.1.1.1.1 hp.1.1.1.1.1.2 (h.2 c hc)
theorem mt_cls : ∀ {ps : List Pc} {t : List UInt8} (c : Int), (∀ p ∈ ps, pieceB p = true) → (∀ p ∈ ps, ∀ k, k ≤ 6 → bt (clP p) k = true → bt c k = true) → mtB ps t = true → chrs t = true → clsIn t c = true
  | [], t, c, _, _, h, _ => by
    rw [mtB, List.isEmpty_iff] at h
    subst h; rfl
  | p :: ps, t, c, hp, hc, h, ht => by
    obtain ⟨n, hn, h1, h2⟩ := mt_cons.1 h
    have hs : chrs (t.take n) = true ∧ chrs (t.drop n) = true := by
      have : chrs (t.take n ++ t.drop n) = true := by rw [List.take_append_drop]; exact ht
      unfold chrs at this ⊢
      rw [List.all_append, Bool.and_eq_true] at this
      exact this
    have g1 := clsIn_bt (hc p (by simp)) (fits_cls (hp p (by simp)) h1 hs.1)
    have g2 := mt_cls c (fun q hq => hp q (by simp [hq])) (fun q hq => hc q (by simp [hq])) h2 hs.2
    rw [← List.take_append_drop n t, clsIn_app, g1, g2]
    rfl
theorem mt_sums : ∀ {q : List Pc} {t : List UInt8}, mtB q t = true → sumL leastP q ≤ (t.length : Int) ∧ (t.length : Int) ≤ sumL mostP q
  | [], t, h => by
    rw [mtB, List.isEmpty_iff] at h
    subst h
    exact ⟨Int.le_refl _, Int.le_refl _⟩
  | b :: q, t, h => by
    obtain ⟨n, hn, h1, h2⟩ := mt_cons.1 h
    obtain ⟨g1, g2⟩ := mt_sums h2
    obtain ⟨l1, l2⟩ := fits_len h1
    rw [List.length_take, Nat.min_eq_left hn] at l1 l2
    rw [List.length_drop] at g1 g2
    rw [sum_cons, sum_cons]
    omega
theorem lit_fits {p : Pc} {t : List UInt8} (h : fits p t = true) : (litT (some p)).data.toList <+: t ∧ (litT (some p)).data.toList <:+ t := by
  unfold fits at h
  unfold litT
  by_cases h0 : p.cls = 0
  · rw [if_pos h0, beq_iff_eq] at h
    simp only [if_pos h0]
    rw [h]
    exact ⟨List.prefix_rfl, List.suffix_rfl⟩
  · simp only [if_neg h0]
    exact ⟨⟨_, rfl⟩, ⟨_, List.append_nil _⟩⟩
/-- The shape of a pattern contains what the pattern matches. -/
theorem pat_in {ps : List Pc} {t : List UInt8} (h : matchB ps t = true) : inS (patS ps) t = true := by
  unfold matchB at h
  rw [Bool.and_eq_true, Bool.and_eq_true] at h
  obtain ⟨⟨h1, h2⟩, h3⟩ := h
  unfold textB at h2
  rw [Bool.and_eq_true, decide_eq_true_eq] at h2
  obtain ⟨g1, g2⟩ := mt_sums h3
  unfold patS
  rw [h1, if_neg (by simp), if_neg (by omega)]
  refine in_of g1 (by simp only; omega) ?_ ?_ ?_ h2.1 h2.2
  · exact mt_cls _ (right_mem h1) (fun p hp k _ e => bt_clL hp k e) h3 h2.2
  · show (litT ps.head?).data.toList <+: t
    cases ps with
    | nil => exact ⟨_, rfl⟩
    | cons p r =>
      obtain ⟨n, hn, f1, f2⟩ := mt_cons.1 h3
      exact (lit_fits f1).1.trans (List.take_prefix _ _)
  · show (litT ps.getLast?).data.toList <:+ t
    by_cases hp : ps = []
    · subst hp; exact ⟨_, List.append_nil _⟩
    · have e := (List.dropLast_concat_getLast hp).symm
      rw [e] at h3
      obtain ⟨n, hn, f1, f2⟩ := mt_split h3
      rw [mt_one] at f2
      rw [List.getLast?_eq_some_getLast hp]
      exact (lit_fits f2).2.trans (List.drop_suffix _ _)
end Go.Proofs.YtgnjakaamgeibaaDoor
