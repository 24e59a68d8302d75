/-
  A journal and its reference side by side, where the power may fail: Append, Open and Opens of both. Conditions: all lie among the things in memory.
-/
import Derived.Test.YtehdjajeonemoaaJUse
import Derived.Test.YtehdjajeonemoaaJOpens2
import Derived.Test.YtehdjajeonemoaaArgJ
namespace Go.Proofs.Ytehdjajeonemoaa
open Go.RowKit

theorem Torn.fail {D : Dk} {L : List (List UInt8)} {x : List UInt8} (h : Torn D L x) (n : Int) : Torn (D.fail n) L x := ⟨h.now, h.crash⟩

/-- Both journals stand; or the power has failed within an append. -/
def Both (D : Dk) (J : Jn) (b : Bool) (R M : List (List UInt8)) : Prop :=
  (Intact D R ∧ J = Jn.of R ∧ b = false ∧ M = []) ∨ (∃ x, Torn D R x ∧ J = { Jn.of R with broken := true } ∧ b = true ∧ M = [x] ∧ x.length ≤ 200)
theorem Both.fail {D : Dk} {J : Jn} {b : Bool} {R M : List (List UInt8)} (h : Both D J b R M) (n : Int) : Both (D.fail n) J b R M := by
  rcases h with ⟨h1, h2⟩ | ⟨x, h1, h2⟩
  · exact .inl ⟨h1.fail n, h2⟩
  · exact .inr ⟨x, h1.fail n, h2⟩
/-- What an append has come to. -/
def AppR (b : Bool) (R M : List (List UInt8)) (x : List UInt8) (c : Int) (D' : Dk) (J' : Jn) : Prop :=
  (b = false ∧ M = [] ∧ c = 0 ∧ Intact D' (R ++ [x]) ∧ J' = Jn.of (R ++ [x])) ∨
  (b = false ∧ M = [] ∧ c = 70 ∧ Torn D' R x ∧ J' = { Jn.of R with broken := true }) ∨
  (b = true ∧ c = 70 ∧ ∃ y, M = [y] ∧ y.length ≤ 200 ∧ Torn D' R y ∧ J' = { Jn.of R with broken := true })
/-- What may be there after Open. -/
def MayBe (b : Bool) (R M R' : List (List UInt8)) : Prop := R' = R ∨ ∃ x, b = true ∧ M = [x] ∧ R' = R ++ [x] ∧ x.length ≤ 200
theorem Both.now {D : Dk} {J : Jn} {b : Bool} {R M : List (List UInt8)} (h : Both D J b R M) : ∃ R', Good D.now R' ∧ MayBe b R M R' := by
  rcases h with ⟨h1, h2, h3, h4⟩ | ⟨x, h1, h2, h3, h4, h5⟩
  · exact ⟨R, h1.good, .inl rfl⟩
  · rcases h1.now with g | g
    · exact ⟨R, g, .inl rfl⟩
    · exact ⟨_, g, .inr ⟨x, h3, h4, rfl, h5⟩⟩
theorem Both.crash {D : Dk} {J : Jn} {b : Bool} {R M : List (List UInt8)} (h : Both D J b R M) (q : List Int) : ∃ R', Good (crashL D q) R' ∧ MayBe b R M R' := by
  rcases h with ⟨h1, h2, h3, h4⟩ | ⟨x, h1, h2, h3, h4, h5⟩
  · exact ⟨R, (h1.crash q).good, .inl rfl⟩
  · rcases h1.crash q with g | g
    · exact ⟨R, g, .inl rfl⟩
    · exact ⟨_, g, .inr ⟨x, h3, h4, rfl, h5⟩⟩
/-- Records of at most 200 bytes. -/
def Small (R : List (List UInt8)) : Prop := ∀ r ∈ R, r.length ≤ 200
theorem Small.nil : Small [] := fun _ h => by cases h
theorem Small.snoc {R : List (List UInt8)} (h : Small R) {x : List UInt8} (hx : x.length ≤ 200) : Small (R ++ [x]) := by
  intro r hr
  rcases List.mem_append.1 hr with hr | hr
  · exact h r hr
  · rw [List.mem_singleton.1 hr]; exact hx
theorem MayBe.small {b : Bool} {R M R' : List (List UInt8)} (h : MayBe b R M R') (hR : Small R) : Small R' ∧ R'.length ≤ R.length + 1 := by
  rcases h with rfl | ⟨x, -, -, rfl, hx⟩
  · exact ⟨hR, by omega⟩
  · exact ⟨hR.snoc hx, by simp⟩
theorem Small.sums {R : List (List UInt8)} (h : Small R) {n : Nat} (hn : R.length ≤ n) : sumL R ≤ 200 * n ∧ cntL R ≤ 216 * n := by
  have h1 := sum_le_mul 200 R h
  have h2 : 200 * R.length ≤ 200 * n := Nat.mul_le_mul_left _ hn
  have h3 : 216 * R.length ≤ 216 * n := Nat.mul_le_mul_left _ hn
  omega
theorem Small.fits {R : List (List UInt8)} (h : Small R) (hl : R.length ≤ 50) (s : ByteArray) (hs : s.size ≤ 200) : (Jn.of R).fits s.size = true := by
  have h1 := (h.sums hl).1
  show decide (sumL R + s.size + 16 * (R.length + 1) + 256 ≤ 16777216) = true
  rw [decide_eq_true_iff]
  omega

theorem set_same {α : Type} {L : List α} {k : Nat} {T : α} (h : L[k]? = some T) : L.set k T = L := by
  apply List.ext_getElem?
  intro i
  by_cases e : k = i
  · subst e
    rw [List.getElem?_set_self (List.getElem?_eq_some_iff.1 h).1, h]
  · rw [List.getElem?_set_ne e]

section
variable {w0 w : World} {L : List Thing}

theorem own_append_both (h : Own w0 L w) {j d : Nat} {D : Dk} {J : Jn} {b : Bool} {n : Nat} {R M : List (List UInt8)} (i k : Nat) (hi : L[i]? = some (diskT d D n)) (hk : L[k]? = some (jT j d J)) (hik : i ≠ k) (hB : Both D J b R M) (hS : Small R) (hl : R.length ≤ 50) (s : ByteArray) (hs : s.size ≤ 200) (hn : n ≤ 1000000) :
    Calls Try.prog 42 #[.pointer (some ⟨j, 0, none⟩), .string s] w fun e w' => ∃ c D' J', e = .returned (.int .i64 c) ∧ AppR b R M s.data.toList c D' J' ∧ Own w0 ((L.set i (diskT d D' (n + 300))).set k (jT j d J')) w' := by
  have hil : i < L.length := (List.getElem?_eq_some_iff.1 hi).1
  rcases hB with ⟨h1, rfl, rfl, rfl⟩ | ⟨x, h1, rfl, rfl, rfl, h5⟩
  · refine (own_append h i k hi hk hik h1 s (hS.fits hl s hs) (by omega)).mono ?_
    rintro e w' (⟨rfl, D', h2, -, h4⟩ | ⟨rfl, -, D', h2, h4⟩)
    · refine ⟨0, D', _, rfl, .inl ⟨rfl, rfl, rfl, h2, rfl⟩, ?_⟩
      have h6 := h4.widen (n' := n + 300) i (by rw [List.getElem?_set_ne (fun e => hik e.symm)]; exact List.getElem?_set_self hil) (by omega)
      rw [List.set_comm _ _ (fun e => hik e.symm), List.set_set] at h6
      exact h6
    · refine ⟨70, D', _, rfl, .inr (.inl ⟨rfl, rfl, rfl, h2, rfl⟩), ?_⟩
      have h6 := h4.widen (n' := n + 300) i (by rw [List.getElem?_set_ne (fun e => hik e.symm)]; exact List.getElem?_set_self hil) (by omega)
      rw [List.set_comm _ _ (fun e => hik e.symm), List.set_set] at h6
      exact h6
  · refine (own_japp_broken h k hk rfl s).mono ?_
    rintro e w' ⟨rfl, h'⟩
    refine ⟨70, D, _, rfl, .inr (.inr ⟨rfl, rfl, x, rfl, h5, h1, rfl⟩), ?_⟩
    rw [set_same (by rw [List.getElem?_set_ne hik]; exact hk)]
    exact h'.widen (n' := n + 300) i hi (by omega)

theorem own_rapp_both (h : Own w0 L w) {m : Nat} {vL vM : Value} {b : Bool} {R M : List (List UInt8)} {s : ByteArray} {c : Int} {D' : Dk} {J' : Jn} (k q q2 : Nat) (hk : L[k]? = some (rT m vL vM ⟨b, cntL R⟩)) (hq : L[q]? = some (strsT vL R)) (hq2 : L[q2]? = some (strsT vM M)) (hkq : k ≠ q) (hkq2 : k ≠ q2) (hqq : q ≠ q2) (hA : AppR b R M s.data.toList c D' J') (hS : Small R) (hl : R.length ≤ 50) (hs : s.size ≤ 200) (p : Bool) (hp : (c == 0) = p) :
    Calls Try.prog 44 #[.pointer (some ⟨m, 0, none⟩), .string s, .bool p] w fun e w' => ∃ c' vL' vM' b' R' M', e = .returned (.int .i64 c') ∧ Both D' J' b' R' M' ∧ Small R' ∧ R'.length ≤ R.length + 1 ∧ Own w0 (((L.set q (strsT vL' R')).set q2 (strsT vM' M')).set k (rT m vL' vM' ⟨b', cntL R'⟩)) w' := by
  have hc := (hS.sums hl).2
  have hsl : s.data.toList.length ≤ 200 := by rw [size_toList]; exact hs
  rcases hA with ⟨rfl, rfl, rfl, h1, rfl⟩ | ⟨rfl, rfl, rfl, h1, rfl⟩ | ⟨rfl, rfl, y, rfl, hy, h1, rfl⟩
  · obtain rfl : p = true := by rw [← hp]; rfl
    refine (own_rapp h k q hk hq hkq rfl s (by show cntL R + _ + _ + _ ≤ _; omega) (by omega)).mono ?_
    rintro e w' ⟨rfl, v', h2⟩
    refine ⟨0, v', vM, false, _, [], rfl, .inl ⟨h1, rfl, rfl, rfl⟩, hS.snoc hsl, by simp, ?_⟩
    have hcn : cntL (R ++ [s.data.toList]) = cntL R + s.size + 16 := by rw [cntL_append, cntL_one, size_toList]; omega
    rw [hcn]
    rw [set_same (k := q2) (by rw [List.getElem?_set_ne hqq]; exact hq2)]
    exact h2
  · obtain rfl : p = false := by rw [← hp]; rfl
    refine (own_rapp_off h k q2 hk hq2 hkq2 rfl s (by show cntL R + _ + _ + _ ≤ _; omega) (by simp)).mono ?_
    rintro e w' ⟨rfl, v', h2⟩
    refine ⟨70, vL, v', true, R, [s.data.toList], rfl, .inr ⟨_, h1, rfl, rfl, rfl, hsl⟩, hS, by omega, ?_⟩
    rw [set_same hq]
    exact h2
  · obtain rfl : p = false := by rw [← hp]; rfl
    refine (own_rapp_broken h k hk rfl s false).mono ?_
    rintro e w' ⟨rfl, rfl⟩
    refine ⟨70, vL, vM, true, R, [y], rfl, .inr ⟨y, h1, rfl, rfl, rfl, hy⟩, hS, by omega, ?_⟩
    rw [set_same hq, set_same hq2, set_same hk]
    exact h

/-- Open, whatever the power failure has left. -/
theorem own_open_both (h : Own w0 L w) {d : Nat} {D : Dk} {n : Nat} {b : Bool} {R M : List (List UInt8)} (i : Nat) (hi : L[i]? = some (diskT d D n)) (hoff : D.off = false) (hn : n ≤ 1099511627776) (hg : ∃ R', Good D.now R' ∧ MayBe b R M R') :
    Calls Try.prog 40 #[.pointer (some ⟨d, 0, none⟩)] w fun e' w' => ∃ j v D' R', e' = .returned (.tuple #[.pointer (some ⟨j, 0, none⟩), v, .int .i64 0]) ∧ MayBe b R M R' ∧ Intact D' R' ∧ D'.limited = D.limited ∧ Own w0 (L.set i (diskT d D' (n + 1)) ++ [jT j d (Jn.of R'), strsT v R']) w' := by
  obtain ⟨R', g1, g2⟩ := hg
  refine (own_opened h i hi hoff hn g1).mono ?_
  rintro e' w' ⟨j, v, D', rfl, h1, h2, h3⟩
  exact ⟨j, v, D', R', rfl, g2, h1, h2, h3⟩

/-- Opens, whatever the power failure has left. -/
theorem own_opens_both (h : Own w0 L w) {m : Nat} {vL vM vg : Value} {b : Bool} {R M R' : List (List UInt8)} (k q q2 g : Nat) (hk : L[k]? = some (rT m vL vM ⟨b, cntL R⟩)) (hq : L[q]? = some (strsT vL R)) (hq2 : L[q2]? = some (strsT vM M)) (hg : L[g]? = some (strsT vg R')) (hkq : k ≠ q) (hgk : g ≠ k) (hS : Small R) (hl : R.length ≤ 50) (hM : MayBe b R M R') :
    Calls Try.prog 46 #[.pointer (some ⟨m, 0, none⟩), vg] w fun e w' => e = .returned (.bool true) ∧ ∃ v', Own w0 ((L.set q (strsT v' R')).set k (rT m v' (.slice none 0 0) ⟨false, cntL R'⟩)) w' := by
  have hsum := (hS.sums hl).2
  rcases hM with rfl | ⟨x, rfl, rfl, rfl, hx⟩
  · exact own_opens h k q g hk hq hg hkq hgk (by omega) (by omega)
  · exact own_opens2 (lM := []) h k q q2 g hk hq hq2 hg hkq hgk (by omega) (by simp) (by rw [cntL_append, cntL_one]; omega)
end
end Go.Proofs.Ytehdjajeonemoaa
