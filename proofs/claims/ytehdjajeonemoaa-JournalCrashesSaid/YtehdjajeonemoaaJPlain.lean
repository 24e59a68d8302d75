/-
  The plain law of a journal: an append, wherever the power fails. Nothing of the program is imported. Conditions: none.
-/
import Derived.Test.YtehdjajeonemoaaJModel
namespace Go.Proofs.Ytehdjajeonemoaa

/-- A journal's own numbers. -/
structure Jn where
  fin : Nat
  many : Nat
  bytes : Nat
  broken : Bool
def Jn.of (L : List (List UInt8)) : Jn := ⟨64 + (recs L).length, L.length, sumL L, false⟩
def Jn.fits (J : Jn) (n : Nat) : Bool := decide (J.bytes + n + 16 * (J.many + 1) + 256 ≤ 16777216)
/-- A write that is synced. -/
def Dk.both (D : Dk) (off : Nat) (s : List UInt8) : Bool × Dk :=
  if (D.write off s).1 = 0 then (decide ((D.write off s).2.sync.1 = 0), (D.write off s).2.sync.2) else (false, (D.write off s).2)
def header (e : Nat) : List UInt8 := magicL ++ be8 e
theorem header_length (e : Nat) : (header e).length = 16 := by simp [header, magicL, be8_length]
/-- An append. -/
def japp (J : Jn) (D : Dk) (r : List UInt8) : Int × Jn × Dk :=
  if J.broken then (70, J, D) else if J.fits r.length = false then (2, J, D) else
  if (D.both J.fin (frm8 r)).1 = false then (70, { J with broken := true }, (D.both J.fin (frm8 r)).2) else
  if ((D.both J.fin (frm8 r)).2.both 0 (header (J.fin + (frm8 r).length))).1 = false then (70, { J with broken := true }, ((D.both J.fin (frm8 r)).2.both 0 (header (J.fin + (frm8 r).length))).2) else
  (0, ⟨J.fin + (frm8 r).length, J.many + 1, J.bytes + r.length, false⟩, ((D.both J.fin (frm8 r)).2.both 0 (header (J.fin + (frm8 r).length))).2)

/-- A disk whose journal stands, and is synced. -/
structure Intact (D : Dk) (L : List (List UInt8)) : Prop where
  good : Good D.now L
  syn : D.synced = D.now
  pend : D.pend = []
theorem Intact.crash {D : Dk} {L : List (List UInt8)} (h : Intact D L) (q : List Int) : Intact (D.crash q) L := by
  have e : crashL D q = D.now := by
    unfold crashL
    rw [h.pend, h.syn]
    split <;> rfl
  exact ⟨by show Good (crashL D q) L; rw [e]; exact h.good, rfl, rfl⟩
theorem Intact.fail {D : Dk} {L : List (List UInt8)} (h : Intact D L) (n : Int) : Intact (D.fail n) L := ⟨h.good, h.syn, h.pend⟩
theorem Intact.new : Intact Dk.new [] := ⟨Good.nil, rfl, rfl⟩
theorem Intact.len {D : Dk} {L : List (List UInt8)} (h : Intact D L) (hL : L ≠ []) : 64 + (recs L).length ≤ D.now.length := by
  cases h.good with
  | blank h1 h2 => exact absurd h1 hL
  | full h1 h2 h3 => exact h3

/-- What a power failure within an append leaves: the old records, or the old ones and the new one; now, and after each crash. -/
structure Torn (D : Dk) (L : List (List UInt8)) (r : List UInt8) : Prop where
  now : Good D.now L ∨ Good D.now (L ++ [r])
  crash : ∀ q, Good (crashL D q) L ∨ Good (crashL D q) (L ++ [r])
theorem Intact.torn {D : Dk} {L : List (List UInt8)} (h : Intact D L) (r : List UInt8) : Torn D L r :=
  ⟨.inl h.good, fun q => .inl (h.crash q).good⟩

/-- What a write and a sync make of a disk. -/
theorem both_cases (D : Dk) (off : Nat) (s : List UInt8) (h : off + s.length ≤ 16777216) :
    ((D.both off s).1 = false ∧ (D.both off s).2 = D ∧ D.off = true) ∨
    ((D.both off s).1 = false ∧ D.off = false ∧ D.limited = true ∧ (D.both off s).2 = { D.count with now := putL D.now off s, pend := D.pend ++ cut s.length off s }) ∨
    ((D.both off s).1 = true ∧ D.off = false ∧ (D.both off s).2.now = putL D.now off s ∧ (D.both off s).2.synced = putL D.now off s ∧ (D.both off s).2.pend = [] ∧ (D.both off s).2.limited = D.limited ∧ (D.both off s).2.calls = D.calls + 2) := by
  have hw : ¬ ((off : Int) < 0 ∨ (off : Int) > 16777216 - (s.length : Int)) := by omega
  unfold Dk.both Dk.write
  rw [if_neg hw]
  by_cases h1 : D.off = true
  · rw [if_pos h1]
    exact .inl ⟨rfl, rfl, h1⟩
  · rw [if_neg h1]
    have h1' : D.off = false := by simpa using h1
    refine .inr ?_
    rw [if_pos rfl]
    unfold Dk.sync
    by_cases h2 : Dk.off { D.count with now := putL D.now (Int.toNat off) s, pend := D.pend ++ cut s.length (Int.toNat off) s } = true
    · rw [if_pos h2]
      refine .inl ⟨rfl, h1', ?_, rfl⟩
      have h3 : D.limited = true := by
        have : (D.limited && ((if D.limited then D.left - 1 else D.left) == 0)) = true := h2
        cases hl : D.limited with
        | true => rfl
        | false => rw [hl] at this; simp at this
      exact h3
    · rw [if_neg h2]
      exact .inr ⟨rfl, h1', rfl, rfl, rfl, rfl, rfl⟩

theorem surv_one (D : Dk) (p : Nat × List UInt8) (q : List Int) (h : D.pend = [p]) : crashL D q = D.synced ∨ crashL D q = putL D.synced p.1 p.2 := by
  unfold crashL
  rw [h]
  split
  · exact .inl rfl
  · rw [survL, survL]
    split
    · exact .inr rfl
    · exact .inl rfl

theorem cut_one (s : List UInt8) (h : s.length = 16) : cut s.length 0 s = [(0, s)] := by
  rw [h, cut, if_neg (by omega), h]
  rw [show min 16 (64 - 0 % 64) = 16 from rfl, List.take_of_length_le (by omega), List.drop_of_length_le (by omega)]
  rfl

theorem get_put (c : List UInt8) (off : Nat) (s : List UInt8) : ((putL c off s).drop off).take s.length = s := by
  have hl : ((c ++ List.replicate (off - c.length) 0).take off).length = off := by simp; omega
  unfold putL
  rw [List.append_assoc]
  have h1 : List.drop off ((c ++ List.replicate (off - c.length) 0).take off ++ (s ++ c.drop (off + s.length))) = s ++ c.drop (off + s.length) := by
    conv => lhs; arg 1; rw [← hl]
    exact List.drop_left
  rw [h1, List.take_left]

theorem Jn.fits_len {L : List (List UInt8)} {r : List UInt8} (h : (Jn.of L).fits r.length = true) : 64 + (recs L).length + (frm8 r).length + 200 ≤ 16777216 ∧ L.length ≤ 1048576 := by
  have h' : sumL L + r.length + 16 * (L.length + 1) + 256 ≤ 16777216 := by simpa [Jn.fits, Jn.of] using h
  rw [recs_length, frm8_length]
  omega

/-- AN APPEND: it is there, and synced; or the power has failed, and it may be there. -/
theorem japp_law {D : Dk} {L : List (List UInt8)} (h : Intact D L) (r : List UInt8) (hf : (Jn.of L).fits r.length = true) :
    ((japp (Jn.of L) D r).1 = 0 ∧ (japp (Jn.of L) D r).2.1 = Jn.of (L ++ [r]) ∧ Intact (japp (Jn.of L) D r).2.2 (L ++ [r]) ∧ (japp (Jn.of L) D r).2.2.limited = D.limited) ∨
    ((japp (Jn.of L) D r).1 = 70 ∧ D.limited = true ∧ (japp (Jn.of L) D r).2.1 = { Jn.of L with broken := true } ∧ Torn (japp (Jn.of L) D r).2.2 L r) := by
  obtain ⟨fl, fL⟩ := Jn.fits_len hf
  have hlim : ∀ {E : Dk}, E.off = true → E.limited = true := by
    intro E hE
    cases hl : E.limited with
    | true => rfl
    | false => simp [Dk.off, hl] at hE
  unfold japp
  rw [if_neg (by simp [Jn.of]), if_neg (by rw [hf]; simp)]
  have hn : (Jn.of L).fin = 64 + (recs L).length := rfl
  rw [hn]
  have c1 := both_cases D (64 + (recs L).length) (frm8 r) (by omega)
  generalize D.both (64 + (recs L).length) (frm8 r) = B1 at c1 ⊢
  obtain ⟨b1, D1⟩ := B1
  simp only at c1 ⊢
  rcases c1 with ⟨e1, e2, e3⟩ | ⟨e1, e2, e3, e4⟩ | ⟨e1, e2, e3, e4, e5, e6, -⟩
  · rw [if_pos e1]
    refine .inr ⟨rfl, hlim e3, rfl, ?_⟩
    simp only
    rw [e2]
    exact h.torn r
  · rw [if_pos e1]
    refine .inr ⟨rfl, e3, rfl, ?_⟩
    simp only
    rw [e4]
    refine ⟨.inl (h.good.put _ _ (Nat.le_refl _)), fun q => .inl ?_⟩
    unfold crashL
    split
    · show Good D.synced L
      rw [h.syn]
      exact h.good
    · refine Good.surv q _ 0 _ (by show Good D.synced L; rw [h.syn]; exact h.good) ?_
      show ∀ p ∈ D.pend ++ cut (frm8 r).length (64 + (recs L).length) (frm8 r), _
      rw [h.pend, List.nil_append]
      exact cut_lo _ _ _
  · rw [if_neg (by rw [e1]; simp)]
    have g1 : Good D1.now L := by rw [e3]; exact h.good.put _ _ (Nat.le_refl _)
    have i1 : Intact D1 L := ⟨g1, by rw [e3, e4], e5⟩
    have hlen : 64 + (recs L).length + (frm8 r).length ≤ D1.now.length := by rw [e3, putL_length]; omega
    have hdr : (D1.now.drop (64 + (recs L).length)).take (frm8 r).length = frm8 r := by rw [e3, get_put]
    have hcom := g1.commit r hdr hlen
    have c2 := both_cases D1 0 (header (64 + (recs L).length + (frm8 r).length)) (by rw [header_length]; omega)
    generalize D1.both 0 (header (64 + (recs L).length + (frm8 r).length)) = B2 at c2 ⊢
    obtain ⟨b2, D2⟩ := B2
    simp only at c2 ⊢
    rcases c2 with ⟨f1, f2, f3⟩ | ⟨f1, f2, f3, f4⟩ | ⟨f1, f2, f3, f4, f5, f6, -⟩
    · rw [if_pos f1]
      refine .inr ⟨rfl, by rw [← e6]; exact hlim f3, rfl, ?_⟩
      simp only
      rw [f2]
      exact i1.torn r
    · rw [if_pos f1]
      refine .inr ⟨rfl, by rw [← e6]; exact f3, rfl, ?_⟩
      simp only
      rw [f4]
      refine ⟨.inr hcom, fun q => ?_⟩
      have hp : Dk.pend { D1.count with now := putL D1.now 0 (header (64 + (recs L).length + (frm8 r).length)), pend := D1.pend ++ cut (header (64 + (recs L).length + (frm8 r).length)).length 0 (header (64 + (recs L).length + (frm8 r).length)) } = [(0, header (64 + (recs L).length + (frm8 r).length))] := by
        show D1.pend ++ _ = _
        rw [i1.pend, List.nil_append, cut_one _ (header_length _)]
      rcases surv_one _ _ q hp with e | e
      · rw [e]
        refine .inl ?_
        show Good D1.synced L
        rw [i1.syn]
        exact g1
      · rw [e]
        refine .inr ?_
        show Good (putL D1.synced 0 _) (L ++ [r])
        rw [i1.syn]
        exact hcom
    · rw [if_neg (by rw [f1]; simp)]
      refine .inl ⟨rfl, ?_, ⟨by simp only; rw [f3]; exact hcom, by simp only; rw [f3, f4], f5⟩, by simp only; rw [f6, e6]⟩
      simp only [Jn.of, recs_append, recs_one, List.length_append, sumL_append, sumL_one, List.length_cons, List.length_nil, Nat.add_assoc]

/-- A sync of a disk that has power. -/
theorem sync_free {D : Dk} (h : D.off = false) : D.sync = (0, { D.count with synced := D.now, pend := [] }) := by
  unfold Dk.sync
  rw [if_neg (by rw [h]; simp)]
theorem sync_intact {D : Dk} {L : List (List UInt8)} (h : D.off = false) (hg : Good D.now L) : D.sync.1 = 0 ∧ Intact D.sync.2 L := by
  rw [sync_free h]
  exact ⟨rfl, hg, rfl, rfl⟩
end Go.Proofs.Ytehdjajeonemoaa
