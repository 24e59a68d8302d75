/-
  Journals in use: Open and Append by what they mean; the sanity of law 31. Conditions: the disks and the journals lie among the things in memory.
-/
import Derived.Test.YtehdjajeonemoaaJOpens
import Derived.Test.YtehdjajeonemoaaJApp2
namespace Go.Proofs.Ytehdjajeonemoaa
open Go.RowKit

section
variable {w0 w : World} {L : List Thing}

theorem japp_off {D : Dk} {R : List (List UInt8)} (r : List UInt8) (hf : (Jn.of R).fits r.length = true) (ho : D.off = true) : japp (Jn.of R) D r = (70, { Jn.of R with broken := true }, D) := by
  obtain ⟨fl, fL⟩ := Jn.fits_len hf
  have hn : (Jn.of R).fin + (frm8 r).length ≤ 16777216 := by
    have : (Jn.of R).fin = 64 + (recs R).length := rfl
    omega
  have c1 := both_cases D (Jn.of R).fin (frm8 r) hn
  rcases c1 with ⟨e1, e2, -⟩ | ⟨-, e2, -⟩ | ⟨-, e2, -⟩
  · unfold japp
    rw [if_neg (by simp [Jn.of]), if_neg (by rw [hf]; simp), if_pos e1, e2]
  · rw [ho] at e2; cases e2
  · rw [ho] at e2; cases e2

/-- Open, of a disk that bears records. -/
theorem own_opened (h : Own w0 L w) {d : Nat} {D : Dk} {n : Nat} {R : List (List UInt8)} (i : Nat) (hi : L[i]? = some (diskT d D n)) (hoff : D.off = false) (hn : n ≤ 1099511627776) (hg : Good D.now R) :
    Calls Try.prog 40 #[.pointer (some ⟨d, 0, none⟩)] w fun e' w' => ∃ j v D', e' = .returned (.tuple #[.pointer (some ⟨j, 0, none⟩), v, .int .i64 0]) ∧ Intact D' R ∧ D'.limited = D.limited ∧ Own w0 (L.set i (diskT d D' (n + 1)) ++ [jT j d (Jn.of R), strsT v R]) w' := by
  obtain ⟨F, c, s, p, hd, hok, hfit, _⟩ := h.get hi
  refine (own_open h i hi hoff hn (64 + (recs R).length) R (hg.open hok.len)).mono ?_
  rintro e' w' ⟨j, v, rfl, hO⟩
  refine ⟨j, v, D.sync.2, rfl, (sync_intact hoff hg).2, ?_, hO⟩
  rw [sync_free hoff]
  rfl

/-- Append, to a journal that stands. -/
theorem own_append (h : Own w0 L w) {j d : Nat} {D : Dk} {n : Nat} {R : List (List UInt8)} (i k : Nat) (hi : L[i]? = some (diskT d D n)) (hk : L[k]? = some (jT j d (Jn.of R))) (hik : i ≠ k) (hD : Intact D R) (s : ByteArray) (hf : (Jn.of R).fits s.size = true) (hn : n + s.size + 100 ≤ 1099511627776) :
    Calls Try.prog 42 #[.pointer (some ⟨j, 0, none⟩), .string s] w fun e w' =>
      (e = .returned (.int .i64 0) ∧ ∃ D', Intact D' (R ++ [s.data.toList]) ∧ D'.limited = D.limited ∧ Own w0 ((L.set i (diskT d D' (n + s.size + 30))).set k (jT j d (Jn.of (R ++ [s.data.toList])))) w') ∨
      (e = .returned (.int .i64 70) ∧ D.limited = true ∧ ∃ D', Torn D' R s.data.toList ∧ Own w0 ((L.set i (diskT d D' (n + s.size + 30))).set k (jT j d { Jn.of R with broken := true })) w') := by
  have hf' : (Jn.of R).fits s.data.toList.length = true := by rw [size_toList]; exact hf
  obtain ⟨fl, fL⟩ := Jn.fits_len hf'
  rw [frm8_length, size_toList] at fl
  refine (own_japp h i k hi hk hik rfl s hf (show 64 + (recs R).length + s.size + 8 ≤ 16777216 by omega) hn).mono ?_
  rintro e w' ⟨rfl, hO⟩
  rcases japp_law hD s.data.toList hf' with ⟨a1, a2, a3, a4⟩ | ⟨a1, a2, a3, a4⟩
  · rw [a2] at hO
    exact .inl ⟨by rw [a1], _, a3, a4, hO⟩
  · rw [a3] at hO
    exact .inr ⟨by rw [a1], a2, _, a4, hO⟩

theorem own_append_on (h : Own w0 L w) {j d : Nat} {D : Dk} {n : Nat} {R : List (List UInt8)} (i k : Nat) (hi : L[i]? = some (diskT d D n)) (hk : L[k]? = some (jT j d (Jn.of R))) (hik : i ≠ k) (hD : Intact D R) (hlim : D.limited = false) (s : ByteArray) (hf : (Jn.of R).fits s.size = true) (hn : n + s.size + 100 ≤ 1099511627776) :
    Calls Try.prog 42 #[.pointer (some ⟨j, 0, none⟩), .string s] w fun e w' =>
      e = .returned (.int .i64 0) ∧ ∃ D', Intact D' (R ++ [s.data.toList]) ∧ D'.limited = false ∧ Own w0 ((L.set i (diskT d D' (n + s.size + 30))).set k (jT j d (Jn.of (R ++ [s.data.toList])))) w' := by
  refine (own_append h i k hi hk hik hD s hf hn).mono ?_
  rintro e w' (⟨rfl, D', h1, h2, h3⟩ | ⟨-, h2, -⟩)
  · exact ⟨rfl, D', h1, h2.trans hlim, h3⟩
  · rw [hlim] at h2; cases h2

theorem own_append_off (h : Own w0 L w) {j d : Nat} {D : Dk} {n : Nat} {R : List (List UInt8)} (i k : Nat) (hi : L[i]? = some (diskT d D n)) (hk : L[k]? = some (jT j d (Jn.of R))) (hik : i ≠ k) (hoff : D.off = true) (s : ByteArray) (hf : (Jn.of R).fits s.size = true) (hn : n + s.size + 100 ≤ 1099511627776) :
    Calls Try.prog 42 #[.pointer (some ⟨j, 0, none⟩), .string s] w fun e w' =>
      e = .returned (.int .i64 70) ∧ Own w0 ((L.set i (diskT d D (n + s.size + 30))).set k (jT j d { Jn.of R with broken := true })) w' := by
  have hf' : (Jn.of R).fits s.data.toList.length = true := by rw [size_toList]; exact hf
  obtain ⟨fl, fL⟩ := Jn.fits_len hf'
  rw [frm8_length, size_toList] at fl
  refine (own_japp h i k hi hk hik rfl s hf (show 64 + (recs R).length + s.size + 8 ≤ 16777216 by omega) hn).mono ?_
  rintro e w' ⟨rfl, hO⟩
  obtain ⟨a1, a2, a3⟩ := trip (japp_off s.data.toList hf' hoff)
  rw [a2, a3] at hO
  exact ⟨by rw [a1], hO⟩
end
end Go.Proofs.Ytehdjajeonemoaa
