/- Clone and Heal with the offset (0, 0) leave an opaque image as it is, plainly. -/
import Derived.Test.YtieacbccadbdbaaDoorHealP
import Derived.Test.YtieacbccadbdbaaDoorPixPlain
import Derived.Test.YtieacbccadbdbaaDoorLOver
namespace Go.Proofs.YtieacbccadbdbaaDoor
set_option linter.unusedVariables false

theorem col3_0 (b s : C3) : col3 0 b s = s := by
  obtain ⟨s1, s2, s3⟩ := s
  rfl
theorem pOk_bd {p : Px} (h : pOk p = true) : (0 ≤ p.1 ∧ p.1 ≤ 65535) ∧ (0 ≤ p.2.1 ∧ p.2.1 ≤ 65535) ∧ (0 ≤ p.2.2.1 ∧ p.2.2.1 ≤ 65535) ∧ (0 ≤ p.2.2.2 ∧ p.2.2.2 ≤ 65535) := by
  have h := of_decide_eq_true h
  have a := cl_bd p.1
  have b := cl_bd p.2.1
  have c := cl_bd p.2.2.1
  have d := cl_bd p.2.2.2
  omega
theorem nU_same (c K : Int) : nU c c c 65535 K = c * (65535 * 65535) := by
  unfold nU
  have e1 : c * K * (65535 - 65535) = 0 := by rw [show (65535 : Int) - 65535 = 0 by omega, Int.mul_zero]
  have e2 : c * 65535 * (65535 - K) = c * 65535 * 65535 - c * 65535 * K := Int.mul_sub _ _ _
  have e3 : c * K * 65535 = c * 65535 * K := by rw [Int.mul_assoc, Int.mul_comm K, Int.mul_assoc]
  have e4 : c * (65535 * 65535) = c * 65535 * 65535 := (Int.mul_assoc _ _ _).symm
  omega
theorem dU_opq (K : Int) : dU 65535 K = 65535 * 65535 := by
  unfold dU
  omega
theorem ovC_same (c K : Int) : ovC c c c 65535 K = c := by
  unfold ovC
  rw [nU_same, dU_opq]
  exact dv_mul c _ (by omega)
theorem alU_opq (K : Int) : alU 65535 K = 65535 := by
  unfold alU
  rw [dU_opq]
  exact dv_mul 65535 65535 (by omega)
/-- A valid opaque pixel, faded, over itself. -/
theorem over_self (p : Px) (K : Int) (hp : pOk p = true) (ha : p.2.2.2 = 65535) (hK : 0 < K ∧ K ≤ 65535) : ovP 0 p (fdP p K) = p := by
  obtain ⟨r, g, b, a⟩ := p
  obtain ⟨h1, h2, h3, h4⟩ := pOk_bd hp
  simp only at h1 h2 h3 h4 ha
  subst ha
  have eK : fdA 65535 K = K := by
    unfold fdA
    rw [cl_id 65535 (by omega) (by omega), cl_id K (by omega) (by omega), Int.mul_comm]
    exact dv_mul K 65535 (by omega)
  have ef : fdP (r, g, b, 65535) K = (r, g, b, K) := by
    unfold fdP
    simp only
    rw [eK, if_neg (by omega), cl_id r h1.1 h1.2, cl_id g h2.1 h2.2, cl_id b h3.1 h3.2]
  rw [ef]
  unfold ovP ovC3
  simp only
  rw [cl_id r h1.1 h1.2, cl_id g h2.1 h2.2, cl_id b h3.1 h3.2, cl_id 65535 (by omega) (by omega), cl_id K (by omega) (by omega), alU_opq, if_neg (by omega), col3_0]
  simp only [ovC_same]
theorem prP_opq (p : Px) (hp : pOk p = true) (ha : p.2.2.2 = 65535) : prP p = p := by
  obtain ⟨r, g, b, a⟩ := p
  obtain ⟨h1, h2, h3, h4⟩ := pOk_bd hp
  simp only at h1 h2 h3 h4 ha
  subst ha
  unfold prP
  simp only
  rw [cl_id r h1.1 h1.2, cl_id g h2.1 h2.2, cl_id b h3.1 h3.2, cl_id 65535 (by omega) (by omega), dv_mul r 65535 (by omega), dv_mul g 65535 (by omega), dv_mul b 65535 (by omega)]
theorem stC_opq (x : Int) (h : 0 ≤ x ∧ x ≤ 65535) : stC x 65535 = x := by
  unfold stC
  rw [cl_id x h.1 h.2, cl_id 65535 (by omega) (by omega), dv_mul x 65535 (by omega)]
  omega
theorem stP_opq (r g b : Int) (h1 : 0 ≤ r ∧ r ≤ 65535) (h2 : 0 ≤ g ∧ g ≤ 65535) (h3 : 0 ≤ b ∧ b ≤ 65535) : stP (r, g, b, 65535) = (r, g, b, 65535) := by
  unfold stP
  simp only
  rw [cl_id 65535 (by omega) (by omega), if_neg (by omega), stC_opq r h1, stC_opq g h2, stC_opq b h3]
theorem mxP_self (p : Px) (t : Int) (hp : pOk p = true) (ha : p.2.2.2 = 65535) (ht : 0 ≤ t ∧ t ≤ 65535) : mxP p p t = p := by
  obtain ⟨r, g, b, a⟩ := p
  obtain ⟨h1, h2, h3, h4⟩ := pOk_bd hp
  simp only at h1 h2 h3 h4 ha
  subst ha
  have l := fun x (h : 0 ≤ x ∧ x ≤ 65535) => mx_lim x x 65535 65535 t
  rw [cl_id 65535 (by omega) (by omega), cl_id t ht.1 ht.2] at l
  have eA : mxA 65535 65535 t = 65535 := (l r h1).2.trans (mA_self _ _ (by omega) ht)
  have eC : ∀ x, 0 ≤ x ∧ x ≤ 65535 → mxC x x 65535 65535 t = x := fun x h => by
    have := (l x h).1
    rw [cl_id x h.1 h.2] at this
    exact this.trans (mC_self _ _ _ (by omega) ht)
  unfold mxP
  simp only
  rw [eA, if_neg (by omega), eC r h1, eC g h2, eC b h3]
theorem smooth_zero (w h : Nat) (m : Nat → Int) (hm : ∀ k, m k = 0) (k : Nat) : smooth w h m k = 0 := by
  unfold smooth
  split
  · exact hm k
  · rw [hm, hm, hm, hm]
    rfl
theorem smooths_zero (w h : Nat) (m : Nat → Int) (hm : ∀ k, m k = 0) : ∀ n k, smooths w h n m k = 0
  | 0, k => hm k
  | n + 1, k => smooth_zero w h _ (smooths_zero w h m hm n) k
theorem mem_same (W w h X Y : Nat) (ps : List Px) (n c k : Nat) : mem W w h X Y X Y ps n c k = 0 := smooths_zero w h _ (fun k => by
  unfold mem0
  split
  · omega
  · rfl) n k
/-- Healing an opaque image with itself. -/
theorem heal_same (W w h X Y : Nat) (sw : Int) (zs : List Int) (ps : List Px) (i : Nat) (hs : 0 ≤ selK sw zs i ∧ selK sw zs i ≤ 65535) (hp : pOk (pxAt ps i) = true) (ha : (pxAt ps i).2.2.2 = 65535) : healAt W w h X Y X Y sw zs ps i = pxAt ps i := by
  by_cases hi : inH W w h X Y i
  · by_cases h0 : selK sw zs i = 0
    · exact healAt_sel h0
    · have en : nIdx X Y w W (hIdx W w X Y i) = i := by
        unfold inH at hi
        unfold hIdx nIdx
        have hw : 0 < w := by omega
        have e := Nat.div_add_mod i W
        have a : ((i / W - Y) * w + (i % W - X)) / w = i / W - Y := by
          rw [show (i / W - Y) * w + (i % W - X) = (i % W - X) + w * (i / W - Y) by rw [Nat.mul_comm]; omega, Nat.add_mul_div_left _ _ hw, Nat.div_eq_of_lt (by omega)]
          omega
        have b : ((i / W - Y) * w + (i % W - X)) % w = i % W - X := by
          rw [show (i / W - Y) * w + (i % W - X) = (i % W - X) + w * (i / W - Y) by rw [Nat.mul_comm]; omega, Nat.add_mul_mod_self_left]
          exact Nat.mod_eq_of_lt (by omega)
        rw [a, b, show Y + (i / W - Y) = i / W by omega, Nat.mul_comm]
        omega
      unfold healAt
      rw [if_pos ⟨hi, h0⟩, en]
      have ez : memP W w h X Y X Y ps (hIdx W w X Y i) = (0, 0, 0, 0) := by
        unfold memP
        simp only [mem_same]
      rw [ez, prP_opq _ hp ha]
      obtain ⟨h1, h2, h3, h4⟩ := pOk_bd hp
      generalize pxAt ps i = p at *
      obtain ⟨r, g, b, a⟩ := p
      simp only at h1 h2 h3 h4 ha
      subst ha
      have eh : heP (r, g, b, 65535) (0, 0, 0, 0) = (r, g, b, 65535) := by
        unfold heP
        simp only [Int.add_zero]
        rw [cl_id r h1.1 h1.2, cl_id g h2.1 h2.2, cl_id b h3.1 h3.2, cl_id 65535 (by omega) (by omega)]
        exact stP_opq r g b h1 h2 h3
      rw [eh]
      exact mxP_self _ _ hp rfl hs
  · exact healAt_out hi
theorem clone_same (B : Bru) (ds : List Dab) (W H : Nat) (sw : Int) (zs : List Int) (ps : List Px) (k : Nat) (hm : B.md = 0) (hl : ps.length = W * H) (hk : k < ps.length) (hp : pOk (pxAt ps k) = true) (ha : (pxAt ps k).2.2.2 = 65535) : cloneAt B ds W H sw zs ps 0 0 k = pxAt ps k := by
  unfold cloneAt
  by_cases h0 : retK B ds W sw zs k = 0
  · rw [if_pos h0]
  · have hb := retK_bd B ds W sw zs k
    rw [if_neg h0, hm]
    have hW : 0 < W := by
      rcases Nat.eq_zero_or_pos W with h | h
      · subst h
        rw [hl, Nat.zero_mul] at hk
        omega
      · exact h
    have e1 : k % W < W := Nat.mod_lt _ hW
    have e2 : k / W < H := Nat.div_lt_of_lt_mul (by omega)
    have e3 := Nat.div_add_mod k W
    have ea : atP W H ps (((k % W : Nat) : Int) + 0) (((k / W : Nat) : Int) + 0) = pxAt ps k := by
      generalize k % W = rm at *
      generalize k / W = qd at *
      rw [Int.add_zero, Int.add_zero, atP_in (by omega) (by omega) (by omega) (by omega)]
      congr 1
      have e4 := Int.natCast_mul qd W
      rw [Nat.mul_comm] at e3
      rw [← e4]
      generalize qd * W = z at *
      omega
    rw [ea]
    exact over_self _ _ hp ha (by omega)
theorem list_same {ps qs : List Px} (hl : qs.length = ps.length) (h : ∀ k, k < ps.length → pxAt qs k = pxAt ps k) : qs = ps := by
  refine List.ext_getElem hl (fun k h1 h2 => ?_)
  have := h k h2
  unfold pxAt at this
  rw [List.getD_eq_getElem?_getD, List.getD_eq_getElem?_getD, List.getElem?_eq_getElem h1, List.getElem?_eq_getElem h2] at this
  exact this
end Go.Proofs.YtieacbccadbdbaaDoor

