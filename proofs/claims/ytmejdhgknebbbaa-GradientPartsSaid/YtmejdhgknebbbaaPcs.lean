/- Rows of pixels that grow by append: the cells of the first k of them. -/
import Derived.Test.YtmejdhgknebbbaaRow
import Derived.Laws.AppendOwn
import Derived.Deep.AppendLies
namespace Go.Proofs.Ytmejdhgknebbbaa
open Go.RowKit
set_option linter.unusedVariables false

def px4 (p : Px) : List Value := [.int .i64 p.1, .int .i64 p.2.1, .int .i64 p.2.2.1, .int .i64 p.2.2.2]
/-- The cells of the pixels r 0 .. r (k - 1). -/
def pcF (r : Nat → Px) (k : Nat) : List Value := (List.range k).flatMap fun i => px4 (r i)
theorem pcF_succ (r : Nat → Px) (k : Nat) : pcF r (k + 1) = pcF r k ++ px4 (r k) := by simp [pcF, List.range_succ]
theorem pcF_len (r : Nat → Px) : ∀ k, (pcF r k).length = k * 4
  | 0 => rfl
  | k + 1 => by rw [pcF_succ, List.length_append, pcF_len r k]; simp [px4]; omega
theorem pcF_at (r : Nat → Px) : ∀ k i j, i < k → j < 4 → (pcF r k)[i * 4 + j]? = (px4 (r i))[j]?
  | 0, i, j, hi, _ => by omega
  | k + 1, i, j, hi, hj => by
    rw [pcF_succ]
    by_cases h : i < k
    · rw [List.getElem?_append_left (by rw [pcF_len]; omega)]
      exact pcF_at r k i j h hj
    · obtain rfl : i = k := by omega
      rw [List.getElem?_append_right (by rw [pcF_len]; omega), pcF_len]
      congr 1
      omega
/-- Such a row, read as a slice of pixels. -/
theorem pn_of_own {w : World} {base n : Nat} {e : TypeId} {v : Value} {r : Nat → Px} {ps : List Px} (h : w.ownsRow base e 4 v n (pcF r n)) (hl : ps.length = n) (hn : n ≤ 9223372036854775807) (hp : ∀ i, i < n → pxAt ps i = r i) : Pn w v ps := by
  subst hl
  have hc : ∀ g, v.ownBlock = some g → ∀ j u, (pcF r ps.length)[j]? = some u → w.cell? ((⟨g, 0, none⟩ : Addr).add j) = some u := fun g hg => h.cells hg
  obtain ⟨_, h2⟩ := h
  rcases h2 with ⟨rfl, h0⟩ | ⟨g, cap, cur, rfl, hg, hh, hcap, hm, hsz, ht⟩
  · exact ⟨none, 0, by rw [h0], hn, .inl h0⟩
  · refine ⟨_, cap, rfl, hn, .inr ⟨g, 0, rfl, lt_of_block hh, fun i hi => ?_⟩⟩
    have c : ∀ j, j < 4 → ∀ u, (px4 (r i))[j]? = some u → w.cell? ⟨g, 0 + i * 4 + j, none⟩ = some u := fun j hj u hu => by
      have := hc g rfl (i * 4 + j) u (by rw [pcF_at r _ i j hi hj]; exact hu)
      rw [Go.WideShapes.add_plain] at this
      rw [show 0 + i * 4 + j = 0 + (i * 4 + j) by omega]
      exact this
    rw [hp i hi]
    exact ⟨c 0 (by omega) _ rfl, c 1 (by omega) _ rfl, c 2 (by omega) _ rfl, c 3 (by omega) _ rfl⟩
theorem own_nil (w : World) (base : Nat) (e : TypeId) (r : Nat → Px) : w.ownsRow base e 4 (.slice none 0 0) 0 (pcF r 0) := World.ownsRow_nil w base e 4
theorem own_slice {w : World} {base n : Nat} {e : TypeId} {size : Nat} {v : Value} {xs : List Value} (h : w.ownsRow base e size v n xs) : ∃ a cap, v = .slice a n cap := by
  obtain ⟨_, h2⟩ := h
  rcases h2 with ⟨rfl, h0⟩ | ⟨g, cap, cur, rfl, _⟩
  · exact ⟨none, 0, by rw [h0]⟩
  · exact ⟨_, cap, rfl⟩
end Go.Proofs.Ytmejdhgknebbbaa
