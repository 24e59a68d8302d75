/-
  Both sides' Text and Parse answer alike. Conditions: the package variables read as the text lays them; the text within reach.
-/
import Derived.Test.YtmpfgdpicbpedaaDoorRParse2
namespace Go.Proofs.YtmpfgdpicbpedaaDoor
open Go.RowKit Go.Shelf

theorem rdO.uniq {l s : List UInt8} {e f : Ending} (h : rdO l s e) (g : rdO l s f) : e = f := by
  rcases h with ⟨hn, rfl⟩ | ⟨n, hn, rfl⟩ <;> rcases g with ⟨gn, rfl⟩ | ⟨k, gn, rfl⟩
  · rfl
  · exact absurd gn (hn k)
  · exact absurd hn (gn n)
  · rw [hn.uniq gn]
theorem rdO.shape {l s : List UInt8} {e : Ending} (h : rdO l s e) : ∃ (n : Int) (b : Bool), e = .returned (.tuple #[.int .i64 n, .bool b]) := by
  rcases h with ⟨-, rfl⟩ | ⟨n, -, rfl⟩
  · exact ⟨_, _, rfl⟩
  · exact ⟨_, _, rfl⟩
theorem txtO.uniq {n : Int} {e f : Ending} (h : txtO n e) (g : txtO n f) : e = f := by
  rcases h with ⟨hn, rfl⟩ | ⟨y, m, d, hc, rfl⟩ <;> rcases g with ⟨gn, rfl⟩ | ⟨y', m', d', gc, rfl⟩
  · rfl
  · rw [in_iff.2 gc.bd] at hn; simp at hn
  · rw [in_iff.2 hc.bd] at gn; simp at gn
  · obtain ⟨e1, e2, e3⟩ := hc.uniq gc
    have e1 : y = y' := by omega
    have e2 : m = m' := by omega
    have e3 : d = d' := by omega
    rw [e1, e2, e3]
end Go.Proofs.YtmpfgdpicbpedaaDoor
