/-
  Plain laws of the disk's model: what a crash leaves; results of writes. Nothing of the program is imported. Conditions: none.
-/
import Derived.Test.YtehdjajeonemoaaModel
namespace Go.Proofs.Ytehdjajeonemoaa

/-- The pieces of a text lie where the text lies, and are made of its bytes. -/
theorem cut_mem : ∀ (f off : Nat) (s : List UInt8) (p : Nat × List UInt8), p ∈ cut f off s → off ≤ p.1 ∧ p.1 + p.2.length ≤ off + s.length ∧ ∀ x ∈ p.2, x ∈ s := by
  intro f
  induction f with
  | zero => intro off s p hp; simp [cut] at hp
  | succ f ih =>
    intro off s p hp
    rw [cut] at hp
    split at hp
    · simp at hp
    · rcases List.mem_cons.1 hp with rfl | hp
      · refine ⟨Nat.le_refl _, ?_, fun x hx => List.mem_of_mem_take hx⟩
        simp only [List.length_take]
        omega
      · obtain ⟨h1, h2, h3⟩ := ih _ _ _ hp
        rw [List.length_drop] at h2
        refine ⟨by omega, by omega, fun x hx => List.mem_of_mem_drop (h3 x hx)⟩

/-- What survives is made by writing some of the pieces. -/
theorem survL_inv (P : List UInt8 → Prop) (q : List Int) : ∀ (ps : List (Nat × List UInt8)) (k : Nat) (c : List UInt8), (∀ p ∈ ps, ∀ c, P c → P (putL c p.1 p.2)) → P c → P (survL q k ps c) := by
  intro ps
  induction ps with
  | nil => intro k c _ h; exact h
  | cons p ps ih =>
    intro k c hp h
    rw [survL]
    refine ih _ _ (fun p' hp' => hp p' (.tail _ hp')) ?_
    split
    · exact hp p (.head _) c h
    · exact h

theorem crashL_inv (P : List UInt8 → Prop) (D : Dk) (q : List Int) (hp : ∀ p ∈ D.pend, ∀ c, P c → P (putL c p.1 p.2)) (h : P D.synced) : P (crashL D q) := by
  unfold crashL
  split
  · exact h
  · exact survL_inv P q D.pend 0 D.synced hp h

/-- Each byte of c is that of a, or v at a place of the text, or a zero beyond a. -/
structure Between (a : List UInt8) (off n : Nat) (v : UInt8) (c : List UInt8) : Prop where
  lo : a.length ≤ c.length
  hi : c.length ≤ max a.length (off + n)
  at_ : ∀ i, i < c.length → (i < a.length ∧ c.getD i 0 = a.getD i 0) ∨ (off ≤ i ∧ i < off + n ∧ c.getD i 0 = v) ∨ (a.length ≤ i ∧ c.getD i 0 = 0)

theorem Between.put {a c : List UInt8} {off n : Nat} {v : UInt8} (h : Between a off n v c) (p : Nat × List UInt8) (h1 : off ≤ p.1) (h2 : p.1 + p.2.length ≤ off + n) (h3 : ∀ x ∈ p.2, x = v) : Between a off n v (putL c p.1 p.2) := by
  have hlo := h.lo
  have hhi := h.hi
  refine ⟨?_, ?_, fun i hi => ?_⟩
  · rw [putL_length]; omega
  · rw [putL_length]; omega
  · rw [putL_getD]
    by_cases hr : p.1 ≤ i ∧ i < p.1 + p.2.length
    · rw [if_pos hr]
      refine .inr (.inl ⟨by omega, by omega, ?_⟩)
      rw [List.getD, List.getElem?_eq_getElem (show i - p.1 < p.2.length by omega)]
      exact h3 _ (List.getElem_mem _)
    · rw [if_neg hr]
      by_cases hc : i < c.length
      · exact h.at_ i hc
      · refine .inr (.inr ⟨by omega, ?_⟩)
        rw [List.getD, List.getElem?_eq_none (by omega)]
        rfl

theorem putL_nil0 (s : List UInt8) : putL [] 0 s = s := by simp [putL]

/-- After a write, a sync, a write of one byte over and over, and a crash. -/
theorem crash_between (D : Dk) (a : List UInt8) (off n : Nat) (v : UInt8) (q : List Int) (hs : D.synced = a) (hp : D.pend = cut n off (List.replicate n v)) : Between a off n v (D.crash q).now := by
  refine crashL_inv (Between a off n v) D q (fun p hpm c hc => ?_) (hs ▸ ⟨Nat.le_refl _, Nat.le_max_left _ _, fun i hi => .inl ⟨hi, rfl⟩⟩)
  rw [hp] at hpm
  obtain ⟨h1, h2, h3⟩ := cut_mem _ _ _ _ hpm
  rw [List.length_replicate] at h2
  exact hc.put p h1 h2 fun x hx => List.eq_of_mem_replicate (h3 x hx)

/-- Behind the place n nothing before it changes. -/
theorem putL_take (c : List UInt8) (off : Nat) (s : List UInt8) (n : Nat) (h1 : n ≤ off) (h2 : n ≤ c.length) : (putL c off s).take n = c.take n := by
  apply List.ext_getElem?
  intro i
  rw [List.getElem?_take, List.getElem?_take]
  split
  · rw [putL_get, if_pos (by omega), if_pos (by omega)]
  · rfl

theorem crash_keeps (D : Dk) (q : List Int) (n : Nat) (hn : n ≤ D.synced.length) (hp : ∀ p ∈ D.pend, n ≤ p.1) : n ≤ (D.crash q).now.length ∧ (D.crash q).now.take n = D.synced.take n :=
  crashL_inv (fun c => n ≤ c.length ∧ c.take n = D.synced.take n) D q (fun p hpm c hc => ⟨by rw [putL_length]; omega, (putL_take c p.1 p.2 n (hp p hpm) hc.1).trans hc.2⟩) ⟨hn, rfl⟩

theorem write_zero {D : Dk} {off : Int} {s : List UInt8} (h0 : 0 ≤ off) (h1 : off ≤ 16777216 - (s.length : Int)) (ho : D.off = false) : (D.write off s).1 = 0 := by
  unfold Dk.write
  rw [if_neg (by omega), ho]
  rfl
theorem write_dk {D : Dk} {off : Int} {s : List UInt8} (h0 : 0 ≤ off) (h1 : off ≤ 16777216 - (s.length : Int)) (ho : D.off = false) : D.write off s = (0, { D.count with now := putL D.now off.toNat s, pend := D.pend ++ cut s.length off.toNat s }) := by
  unfold Dk.write
  rw [if_neg (by omega), ho]
  rfl
theorem sync_dk {D : Dk} (ho : D.off = false) : D.sync = (0, { D.count with synced := D.now, pend := [] }) := by
  unfold Dk.sync
  rw [ho]
  rfl
theorem off_free {D : Dk} (h : D.limited = false) : D.off = false := by unfold Dk.off; rw [h]; rfl
theorem read_all (D : Dk) (n : Nat) (h : n = D.now.length) : D.read 0 n = D.now := by
  unfold Dk.read
  subst h
  split
  · rename_i h
    have : D.now.length = 0 := by omega
    exact (List.length_eq_zero_iff.1 this).symm
  · simp
theorem read_pre (D : Dk) (n : Nat) : D.read 0 n = D.now.take n := by
  unfold Dk.read
  split
  · rename_i h
    rcases (show n = 0 ∨ D.now.length = 0 by omega) with h | h
    · subst h; simp
    · rw [List.length_eq_zero_iff.1 h]; simp
  · simp

theorem limited_write (D : Dk) (off : Int) (s : List UInt8) : (D.write off s).2.limited = D.limited := by
  unfold Dk.write
  split
  · rfl
  · split <;> rfl
theorem limited_sync (D : Dk) : D.sync.2.limited = D.limited := by
  unfold Dk.sync
  split <;> rfl
theorem limited_crash (D : Dk) (q : List Int) : (D.crash q).limited = false := rfl
theorem calls_write {D : Dk} {off : Int} {s : List UInt8} (h0 : 0 ≤ off) (h1 : off ≤ 16777216 - (s.length : Int)) (ho : D.off = false) : (D.write off s).2.calls = D.calls + 1 := by
  rw [write_dk h0 h1 ho]
  rfl

/-- A crash of what a crash has left. -/
theorem crash_crash (D : Dk) (a b : List Int) : (D.crash a).crash b = D.crash a := by
  have : crashL (D.crash a) b = crashL D a := by
    unfold crashL Dk.crash
    split <;> rfl
  show (⟨_, _, _, _, _, _⟩ : Dk) = ⟨_, _, _, _, _, _⟩
  rw [this]

/-- A disk that is to fail after a number of calls. -/
structure Failing (many i : Nat) (D : Dk) : Prop where
  lim : D.limited = true
  left : D.left = many - i
  calls : D.calls = min i many
  now : D.now.length ≤ min i many

theorem Failing.off {many i : Nat} {D : Dk} (h : Failing many i D) : D.off = decide (many ≤ i) := by
  unfold Dk.off
  rw [h.lim, h.left]
  by_cases h : many ≤ i
  · have : many - i = 0 := by omega
    simp [this, h]
  · have : many - i ≠ 0 := by omega
    simp [this, h]

theorem Failing.sync {many i : Nat} {D : Dk} (h : Failing many i D) : D.sync.1 = (if many ≤ i then 70 else 0) ∧ Failing many (i + 1) D.sync.2 := by
  have ho := h.off
  have hl := h.left
  have hc := h.calls
  have hn := h.now
  unfold Dk.sync
  by_cases hm : many ≤ i
  · rw [ho, if_pos (by simpa using hm), if_pos hm]
    exact ⟨rfl, h.lim, show D.left = _ by omega, show D.calls = _ by omega, show D.now.length ≤ _ by omega⟩
  · rw [ho, if_neg (by simpa using hm), if_neg hm]
    refine ⟨rfl, h.lim, ?_, ?_, ?_⟩
    · show (if D.limited then D.left - 1 else D.left) = _
      rw [h.lim, if_pos rfl]; omega
    · show D.calls + 1 = _
      omega
    · show D.now.length ≤ _
      omega

theorem Failing.write {many i : Nat} {D : Dk} (h : Failing many i D) (z : UInt8) (hi : i ≤ 1000) : (D.write i [z]).1 = (if many ≤ i then 70 else 0) ∧ Failing many (i + 1) (D.write i [z]).2 := by
  have ho := h.off
  have hl := h.left
  have hc := h.calls
  have hn := h.now
  unfold Dk.write
  rw [if_neg (by simp only [List.length_singleton]; omega)]
  by_cases hm : many ≤ i
  · rw [ho, if_pos (by simpa using hm), if_pos hm]
    exact ⟨rfl, h.lim, show D.left = _ by omega, show D.calls = _ by omega, show D.now.length ≤ _ by omega⟩
  · rw [ho, if_neg (by simpa using hm), if_neg hm]
    refine ⟨rfl, h.lim, ?_, ?_, ?_⟩
    · show (if D.limited then D.left - 1 else D.left) = _
      rw [h.lim, if_pos rfl]; omega
    · show D.calls + 1 = _
      omega
    · show (putL D.now (i : Int).toNat [z]).length ≤ _
      rw [putL_length]
      simp only [List.length_singleton, Int.toNat_natCast]
      omega
end Go.Proofs.Ytehdjajeonemoaa
