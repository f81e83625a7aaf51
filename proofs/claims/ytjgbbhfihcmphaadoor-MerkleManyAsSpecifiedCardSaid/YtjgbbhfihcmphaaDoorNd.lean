/- Walks of the functions that the claim reaches. Conditions: none. -/
import Derived.Test.YtjgbbhfihcmphaaDoorNc
set_option linter.all false
set_option maxRecDepth 10000
set_option maxHeartbeats 4000000
namespace Go.Proofs.YtjgbbhfihcmphaaDoor
open Go Go.Cn Go.RowKit
attribute [local irreducible] evL sem onG onI onV
def onesF (n : Nat) : Nat := if h : n = 0 then 0 else n % 2 + onesF (n / 2)
theorem onesF_step (n : Nat) : onesF n = n % 2 + onesF (n / 2) := by
 rw [onesF]
 split
 ·rename_i h; subst h; rw [onesF]; simp
 ·rfl
def tz1 (n : Nat) : Nat := if h : n % 2 = 1 then 1 + tz1 (n / 2) else 0
termination_by n
decreasing_by omega
theorem tz1_le : ∀ (N n : Nat), n ≤ N → tz1 n ≤ onesF n := by
 intro N
 induction N with
 |zero => intro n h; rw [tz1, dif_neg (by omega)]; omega
 |succ N ih =>
  intro n h
  rw [tz1]
  split
  ·rename_i h1
   rw [onesF_step]
   have := ih (n / 2) (by omega)
   omega
  ·omega
theorem tz1_form : ∀ (N n : Nat), n ≤ N → ∃ q, n + 1 = 2 ^ tz1 n * (2 * q + 1) := by
 intro N
 induction N with
 |zero => intro n h; rw [tz1, dif_neg (by omega)]; exact ⟨0, by omega⟩
 |succ N ih =>
  intro n h
  rw [tz1]
  split
  ·obtain ⟨q, hq⟩ := ih (n / 2) (by omega)
   refine ⟨q, ?_⟩
   rw [Nat.pow_add, Nat.mul_assoc, ← hq]
   omega
  ·exact ⟨n / 2, by omega⟩
def valB : List Nat → Nat
 |[] => 0
 |a :: r => a + 256 * valB r
theorem and_split {a m x y : Nat} (ha : a < 256) (hm : m < 256) : (a + 256 * x) &&& (m + 256 * y) = (a &&& m) + 256 * (x &&& y) := by
 have e1 : ((a + 256 * x) &&& (m + 256 * y)) / 2 ^ 8 = x &&& y := by
  rw [Nat.and_div_two_pow]
  rw [show (a + 256 * x) / 2 ^ 8 = x by omega, show (m + 256 * y) / 2 ^ 8 = y by omega]
 have e2 : ((a + 256 * x) &&& (m + 256 * y)) % 2 ^ 8 = a &&& m := by
  rw [Nat.and_mod_two_pow]
  rw [show (a + 256 * x) % 2 ^ 8 = a by omega, show (m + 256 * y) % 2 ^ 8 = m by omega]
 have := Nat.div_add_mod ((a + 256 * x) &&& (m + 256 * y)) (2 ^ 8)
 rw [e1, e2] at this
 omega
def p1 (a : Nat) : Nat := (a / 2 &&& 85) + (a &&& 85)
def p2 (a : Nat) : Nat := (a / 4 &&& 51) + (a &&& 51)
def p3 (a : Nat) : Nat := (a / 16 + a) &&& 15
theorem q1 : ∀ a : Fin 256, ∀ t : Fin 2, (a.val / 2 + 128 * t.val) &&& 85 = (a.val / 2 &&& 85) := by decide +kernel
theorem q2 : ∀ a : Fin 256, ∀ t : Fin 4, (a.val / 4 + 64 * t.val) &&& 51 = (a.val / 4 &&& 51) := by decide +kernel
theorem q3 : ∀ a : Fin 256, ∀ t : Fin 5, p2 (p1 a.val) ≤ 68 ∧ p2 (p1 a.val) % 16 ≤ 4 ∧ ((p2 (p1 a.val) / 16 + p2 (p1 a.val) + 16 * t.val) &&& 15 = p3 (p2 (p1 a.val))) ∧ p1 a.val < 256 ∧ p3 (p2 (p1 a.val)) = onesF a.val ∧ p3 (p2 (p1 a.val)) ≤ 8 := by decide +kernel
def reps (k m : Nat) : Nat := match k with
 |0 => 0
 |k + 1 => m + 256 * reps k m
theorem mask5 : reps 8 85 = 6148914691236517205 := rfl
theorem mask3 : reps 8 51 = 3689348814741910323 := rfl
theorem mask0 : reps 8 15 = 1085102592571150095 := rfl
theorem step1 : ∀ {l : List Nat}, (∀ a ∈ l, a < 256) → (valB l / 2 &&& reps l.length 85) + (valB l &&& reps l.length 85) = valB (l.map p1)
 |[], _ => by simp [valB, reps]
 |a :: r, h => by
  have ih := step1 (l := r) (fun b hb => h b (by simp [hb]))
  have ha := h a (by simp)
  simp only [valB, List.length_cons, reps, List.map_cons]
  rw [show (a + 256 * valB r) / 2 = (a / 2 + 128 * (valB r % 2)) + 256 * (valB r / 2) by omega, and_split (by omega) (by omega), and_split ha (by omega), (q1 ⟨a, ha⟩ ⟨valB r % 2, by omega⟩ : (a / 2 + 128 * (valB r % 2)) &&& 85 = (a / 2 &&& 85)), ← ih]
  show _ = (a / 2 &&& 85) + (a &&& 85) + _
  simp only [Nat.mul_add]
  omega
theorem step2 : ∀ {l : List Nat}, (∀ a ∈ l, a < 256) → (valB l / 4 &&& reps l.length 51) + (valB l &&& reps l.length 51) = valB (l.map p2)
 |[], _ => by simp [valB, reps]
 |a :: r, h => by
  have ih := step2 (l := r) (fun b hb => h b (by simp [hb]))
  have ha := h a (by simp)
  simp only [valB, List.length_cons, reps, List.map_cons]
  rw [show (a + 256 * valB r) / 4 = (a / 4 + 64 * (valB r % 4)) + 256 * (valB r / 4) by omega, and_split (by omega) (by omega), and_split ha (by omega), (q2 ⟨a, ha⟩ ⟨valB r % 4, by omega⟩ : (a / 4 + 64 * (valB r % 4)) &&& 51 = (a / 4 &&& 51)), ← ih]
  show _ = (a / 4 &&& 51) + (a &&& 51) + _
  simp only [Nat.mul_add]
  omega
theorem low4 : ∀ {l : List Nat}, (∀ a ∈ l, a < 256) → valB (l.map fun a => p2 (p1 a)) % 16 ≤ 4
 |[], _ => by simp [valB]
 |a :: r, h => by
  have := (q3 ⟨a, h a (by simp)⟩ 0).2.1
  have h9 : p2 (p1 a) % 16 ≤ 4 := this
  simp only [List.map_cons, valB]
  omega
theorem step3 : ∀ {l : List Nat}, (∀ a ∈ l, a < 256) → (valB (l.map fun a => p2 (p1 a)) / 16 + valB (l.map fun a => p2 (p1 a)) &&& reps l.length 15) = valB (l.map onesF)
 |[], _ => by simp [valB, reps]
 |a :: r, h => by
  have hr : ∀ b ∈ r, b < 256 := fun b hb => h b (by simp [hb])
  have ih := step3 (l := r) hr
  have ha := h a (by simp)
  have hl := low4 hr
  obtain ⟨h1, h2, h3, h4, h5, h6⟩ := q3 ⟨a, ha⟩ ⟨valB (r.map fun a => p2 (p1 a)) % 16, by omega⟩
  simp only at h1 h2 h3 h4 h5 h6
  simp only [valB, List.length_cons, reps, List.map_cons]
  generalize hv : valB (r.map fun a => p2 (p1 a)) = v at *
  generalize p2 (p1 a) = b at *
  rw [show (b + 256 * v) / 16 + (b + 256 * v) = (b / 16 + b + 16 * (v % 16)) + 256 * (v / 16 + v) by omega, and_split (by omega) (by omega), h3, h5, ih]
theorem onesF_le : ∀ {k a : Nat}, a < 2 ^ k → onesF a ≤ k
 |0, a, h => by rw [onesF, dif_pos (by omega)]; omega
 |k + 1, a, h => by
  rw [onesF_step]
  have := onesF_le (k := k) (a := a / 2) (by rw [Nat.pow_succ] at h; omega)
  omega
theorem onesF_split : ∀ (k a x : Nat), a < 2 ^ k → onesF (a + 2 ^ k * x) = onesF a + onesF x
 |0, a, x, h => by
  have : a = 0 := by omega
  subst this
  have : onesF 0 = 0 := by rw [onesF]; rfl
  rw [this]
  simp
 |k + 1, a, x, h => by
  rw [onesF_step, onesF_step a]
  have e1 : (a + 2 ^ (k + 1) * x) % 2 = a % 2 := by rw [Nat.pow_succ, Nat.mul_comm (2 ^ k) 2, Nat.mul_assoc]; omega
  have e2 : (a + 2 ^ (k + 1) * x) / 2 = a / 2 + 2 ^ k * x := by rw [Nat.pow_succ, Nat.mul_comm (2 ^ k) 2, Nat.mul_assoc]; omega
  rw [e1, e2, onesF_split k (a / 2) x (by rw [Nat.pow_succ] at h; omega)]
  omega
theorem bytes8 {x : Nat} (h : x < 18446744073709551616) : ∃ a b c d e f g i, x = valB [a, b, c, d, e, f, g, i] ∧ ∀ y ∈ [a, b, c, d, e, f, g, i], y < 256 := by
 refine ⟨x % 256, x / 256 % 256, x / 256 / 256 % 256, x / 256 / 256 / 256 % 256, x / 256 / 256 / 256 / 256 % 256, x / 256 / 256 / 256 / 256 / 256 % 256, x / 256 / 256 / 256 / 256 / 256 / 256 % 256, x / 256 / 256 / 256 / 256 / 256 / 256 / 256 % 256, ?_, ?_⟩
 ·simp only [valB]; omega
 ·intro y hy
  simp only [List.mem_cons, List.not_mem_nil, or_false] at hy
  omega
theorem valB_le {m : Nat} : ∀ {l : List Nat}, (∀ a ∈ l, a ≤ m) → valB l ≤ reps l.length m
 |[], _ => Nat.le_refl _
 |a :: r, h => by
  have := valB_le (l := r) (fun b hb => h b (by simp [hb]))
  have := h a (by simp)
  simp only [valB, List.length_cons, reps]
  omega
theorem tail_spec {y0 y1 y2 y3 y4 y5 y6 y7 c : Nat} (d0 : y0 ≤ 8) (d1 : y1 ≤ 8) (d2 : y2 ≤ 8) (d3 : y3 ≤ 8) (d4 : y4 ≤ 8) (d5 : y5 ≤ 8) (d6 : y6 ≤ 8) (d7 : y7 ≤ 8) (h : c = valB [y0, y1, y2, y3, y4, y5, y6, y7]) :
  c + c / 256 < 18446744073709551616 ∧ c + c / 256 + (c + c / 256) / 65536 < 18446744073709551616 ∧ c + c / 256 + (c + c / 256) / 65536 + (c + c / 256 + (c + c / 256) / 65536) / 4294967296 < 18446744073709551616 ∧
   (c + c / 256 + (c + c / 256) / 65536 + (c + c / 256 + (c + c / 256) / 65536) / 4294967296) % 128 = y0 + (y1 + (y2 + (y3 + (y4 + (y5 + (y6 + y7)))))) := by
 have hc : c ≤ reps 8 8 := by
  rw [h]
  refine valB_le fun a ha => ?_
  simp only [List.mem_cons, List.not_mem_nil, or_false] at ha
  omega
 have hc' : c ≤ 578721382704613384 := hc
 clear hc
 simp only [valB, Nat.mul_zero, Nat.add_zero] at h
 obtain ⟨R6, e6⟩ : ∃ R, R = y6 + 256 * y7 := ⟨_, rfl⟩
 rw [← e6] at h
 obtain ⟨R5, e5⟩ : ∃ R, R = y5 + 256 * R6 := ⟨_, rfl⟩
 rw [← e5] at h
 obtain ⟨R4, e4⟩ : ∃ R, R = y4 + 256 * R5 := ⟨_, rfl⟩
 rw [← e4] at h
 obtain ⟨R3, e3⟩ : ∃ R, R = y3 + 256 * R4 := ⟨_, rfl⟩
 rw [← e3] at h
 obtain ⟨R2, e2⟩ : ∃ R, R = y2 + 256 * R3 := ⟨_, rfl⟩
 rw [← e2] at h
 obtain ⟨R1, e1⟩ : ∃ R, R = y1 + 256 * R2 := ⟨_, rfl⟩
 rw [← e1] at h
 have q1 : c / 256 = R1 := by clear e1 e2 e3 e4 e5 e6; omega
 rw [q1]
 obtain ⟨u, hu⟩ : ∃ u, u = c + R1 := ⟨_, rfl⟩
 rw [← hu]
 have l1 : R1 ≤ c := by clear e1 e2 e3 e4 e5 e6; omega
 have u1 : u = y0 + y1 + 256 * (y1 + y2) + 65536 * (R2 + R3) := by clear e3 e4 e5 e6 q1 l1 hc'; omega
 have q2 : u / 65536 = R2 + R3 := by clear hu e1 e2 e3 e4 e5 e6 q1 l1 hc' h; omega
 rw [q2]
 obtain ⟨w, hw⟩ : ∃ w, w = u + (R2 + R3) := ⟨_, rfl⟩
 rw [← hw]
 have w1 : w = (y0 + y1 + y2 + y3) + 256 * (y1 + y2 + y3 + y4) + 65536 * (R2 + R3 + R4 + R5) := by clear e1 e5 e6 q1 l1 hc' h hu q2; omega
 have w2 : R2 + R3 + R4 + R5 = (y2 + y3 + y4 + y5) + 256 * (y3 + y4 + y5 + y6) + 65536 * (R4 + R5 + R6 + y7) := by clear e1 q1 l1 hc' h hu q2 hw w1 u1; omega
 rw [w2] at w1
 have q3 : w / 4294967296 = R4 + R5 + R6 + y7 := by clear hw u1 hu e1 e2 e3 e4 e5 e6 q1 l1 hc' h q2 w2; omega
 rw [q3]
 have l2 : R2 + R3 ≤ u := by clear hw w1 hu e1 e2 e3 e4 e5 e6 q1 l1 hc' h q2 w2 q3; omega
 have l3 : R4 + R5 + R6 + y7 ≤ w := by clear hw u1 hu e1 e2 e3 e4 e5 e6 q1 l1 hc' h q2 w2 q3; omega
 refine ⟨by omega, by omega, by omega, ?_⟩
 have m1 : ∃ k, w = (y0 + y1 + y2 + y3) + 128 * k := ⟨2 * (y1 + y2 + y3 + y4) + 512 * ((y2 + y3 + y4 + y5) + 256 * (y3 + y4 + y5 + y6) + 65536 * (R4 + R5 + R6 + y7)), by clear hw u1 hu e1 e2 e3 e4 e5 e6 q1 l1 hc' h q2 w2 q3 l2 l3; omega⟩
 have m2 : ∃ k, R4 + R5 + R6 + y7 = (y4 + y5 + y6 + y7) + 128 * k := ⟨2 * (R5 + R6 + y7), by clear hw u1 hu e1 e2 e3 q1 l1 hc' h q2 w2 q3 l2 l3 w1; omega⟩
 obtain ⟨k1, m1⟩ := m1
 obtain ⟨k2, m2⟩ := m2
 rw [m2, m1]
 clear hw u1 hu e1 e2 e3 e4 e5 e6 q1 l1 hc' h q2 w2 q3 l2 l3 w1 m1 m2
 omega
theorem swar_spec {x : Nat} (h : x < 18446744073709551616) :
  let a := (x / 2 &&& 6148914691236517205) + (x &&& 6148914691236517205)
  let b := (a / 4 &&& 3689348814741910323) + (a &&& 3689348814741910323)
  let c := (b / 16 + b) &&& 1085102592571150095
  a < 18446744073709551616 ∧ b < 9223372036854775808 ∧ b / 16 + b < 18446744073709551616 ∧ c + c / 256 < 18446744073709551616 ∧
   c + c / 256 + (c + c / 256) / 65536 < 18446744073709551616 ∧ c + c / 256 + (c + c / 256) / 65536 + (c + c / 256 + (c + c / 256) / 65536) / 4294967296 < 18446744073709551616 ∧
   (c + c / 256 + (c + c / 256) / 65536 + (c + c / 256 + (c + c / 256) / 65536) / 4294967296) % 128 = onesF x := by
 obtain ⟨x0, x1, x2, x3, x4, x5, x6, x7, rfl, hb⟩ := bytes8 h
 have e1 := step1 hb
 have hb2 : ∀ y ∈ [x0, x1, x2, x3, x4, x5, x6, x7].map p1, y < 256 := by
  intro y hy
  obtain ⟨z, hz, rfl⟩ := List.mem_map.1 hy
  exact (q3 ⟨z, hb z hz⟩ 0).2.2.2.1
 have e2 := step2 (l := [x0, x1, x2, x3, x4, x5, x6, x7].map p1) hb2
 have k1 := valB_le (m := 255) (l := [x0, x1, x2, x3, x4, x5, x6, x7].map p1) (fun a ha => by have := hb2 a ha; omega)
 have k2 := valB_le (m := 68) (l := [x0, x1, x2, x3, x4, x5, x6, x7].map fun a => p2 (p1 a)) (fun a ha => by
  obtain ⟨z, hz, rfl⟩ := List.mem_map.1 ha
  exact (q3 ⟨z, hb z hz⟩ 0).1)
 rw [List.map_map] at e2
 have e3 := step3 hb
 rw [show ([x0, x1, x2, x3, x4, x5, x6, x7].map p1).length = 8 from rfl, mask3] at e2
 rw [show [x0, x1, x2, x3, x4, x5, x6, x7].length = 8 from rfl, mask5] at e1
 rw [show [x0, x1, x2, x3, x4, x5, x6, x7].length = 8 from rfl, mask0] at e3
 rw [show ([x0, x1, x2, x3, x4, x5, x6, x7].map p1).length = 8 from rfl, show reps 8 255 = 18446744073709551615 from rfl] at k1
 rw [show ([x0, x1, x2, x3, x4, x5, x6, x7].map fun a => p2 (p1 a)).length = 8 from rfl, show reps 8 68 = 4919131752989213764 from rfl] at k2
 have o : onesF (valB [x0, x1, x2, x3, x4, x5, x6, x7]) = onesF x0 + (onesF x1 + (onesF x2 + (onesF x3 + (onesF x4 + (onesF x5 + (onesF x6 + onesF x7)))))) := by
  simp only [valB]
  rw [onesF_split 8 x0 _ (hb _ (by simp)), onesF_split 8 x1 _ (hb _ (by simp)), onesF_split 8 x2 _ (hb _ (by simp)), onesF_split 8 x3 _ (hb _ (by simp)), onesF_split 8 x4 _ (hb _ (by simp)), onesF_split 8 x5 _ (hb _ (by simp)), onesF_split 8 x6 _ (hb _ (by simp)), Nat.mul_zero, Nat.add_zero]
 have b1 : ∀ z ∈ [x0, x1, x2, x3, x4, x5, x6, x7], onesF z ≤ 8 := fun z hz => onesF_le (k := 8) (hb z hz)
 intro a b c
 have ea : a = valB ([x0, x1, x2, x3, x4, x5, x6, x7].map p1) := e1
 have eb : b = valB ([x0, x1, x2, x3, x4, x5, x6, x7].map fun a => p2 (p1 a)) := by show (a / 4 &&& _) + (a &&& _) = _; rw [ea]; exact e2
 have ec : c = valB ([x0, x1, x2, x3, x4, x5, x6, x7].map onesF) := by show (b / 16 + b) &&& _ = _; rw [eb]; exact e3
 obtain ⟨t1, t2, t3, t4⟩ := tail_spec (b1 _ (by simp)) (b1 _ (by simp)) (b1 _ (by simp)) (b1 _ (by simp)) (b1 _ (by simp)) (b1 _ (by simp)) (b1 _ (by simp)) (b1 _ (by simp)) ec
 rw [o]
 rw [← ea] at k1
 rw [← eb] at k2
 clear_value a b c
 exact ⟨by omega, by omega, by omega, t1, t2, t3, t4⟩
theorem compl_and : ∀ (k q : Nat), q < 2 ^ k → q &&& (2 ^ k - 1 - q) = 0
  | 0, q, h => by have : q = 0 := by omega
                  subst this; rfl
  | k + 1, q, h => by
    have ih := compl_and k (q / 2) (by rw [Nat.pow_succ] at h; omega)
    have hp : 0 < 2 ^ k := Nat.pow_pos (by omega)
    rw [Nat.pow_succ] at h ⊢
    have e1 : (q &&& (2 ^ k * 2 - 1 - q)) / 2 ^ 1 = 0 := by
      rw [Nat.and_div_two_pow, show (2 ^ k * 2 - 1 - q) / 2 ^ 1 = 2 ^ k - 1 - q / 2 by omega, show q / 2 ^ 1 = q / 2 from rfl, ih]
    have e2 : (q &&& (2 ^ k * 2 - 1 - q)) % 2 ^ 1 = 0 := by
      rw [Nat.and_mod_two_pow]
      rcases Nat.mod_two_eq_zero_or_one q with h1 | h1
      · rw [show q % 2 ^ 1 = 0 from h1]; simp
      · rw [show (2 ^ k * 2 - 1 - q) % 2 ^ 1 = 0 by omega]; simp
    omega
theorem low_bit {t q k : Nat} (hk : t + k + 1 = 64) (h : 2 ^ t * (2 * q + 1) < 2 ^ 64) : (2 ^ t * (2 * q + 1)) &&& (2 ^ 64 - 2 ^ t * (2 * q + 1)) = 2 ^ t := by
 have hp : 0 < 2 ^ t := Nat.pow_pos (by omega)
 have e64 : 2 ^ 64 = 2 ^ t * (2 ^ k * 2) := by rw [← Nat.pow_succ, ← Nat.pow_add, show t + (k + 1) = 64 by omega]
 rw [e64] at h ⊢
 have hq : 2 * q + 1 < 2 ^ k * 2 := Nat.lt_of_mul_lt_mul_left h
 rw [← Nat.mul_sub]
 rw [Nat.mul_comm (2 ^ t), Nat.mul_comm (2 ^ t), ← Nat.shiftLeft_eq, ← Nat.shiftLeft_eq, ← Nat.shiftLeft_and_distrib]
 rw [Nat.shiftLeft_eq]
 have e : (2 * q + 1) &&& (2 ^ k * 2 - (2 * q + 1)) = 1 := by
  have e1 : ((2 * q + 1) &&& (2 ^ k * 2 - (2 * q + 1))) / 2 ^ 1 = 0 := by
   rw [Nat.and_div_two_pow, show (2 ^ k * 2 - (2 * q + 1)) / 2 ^ 1 = 2 ^ k - 1 - q by omega, show (2 * q + 1) / 2 ^ 1 = q by omega]
   exact compl_and k q (by omega)
  have e2 : ((2 * q + 1) &&& (2 ^ k * 2 - (2 * q + 1))) % 2 ^ 1 = 1 := by
   rw [Nat.and_mod_two_pow, show (2 * q + 1) % 2 ^ 1 = 1 by omega, show (2 ^ k * 2 - (2 * q + 1)) % 2 ^ 1 = 1 by omega]
   rfl
  omega
 rw [e, Nat.one_mul]
def tab64 : List Int := [0, 1, 56, 2, 57, 49, 28, 3, 61, 58, 42, 50, 38, 29, 17, 4, 62, 47, 59, 36, 45, 43, 51, 22, 53, 39, 33, 30, 24, 18, 12, 5, 63, 55, 48, 27, 60, 41, 37, 16, 46, 35, 44, 21, 52, 32, 23, 11, 54, 26, 40, 15, 34, 20, 31, 10, 25, 14, 19, 9, 13, 8, 7, 6]
def BGlob (σ : H) : Prop := rdN σ ⟨1, 0, none⟩ 64 = some (digC tab64)
theorem BGlob.Old {σ τ : H} (h : BGlob σ) (ho : Old σ τ) : BGlob τ := rdN_Old ho h
theorem tab_at : ∀ t : Fin 64, tab64[(2 ^ t.val * 285870213051353865) % 18446744073709551616 / 288230376151711744]? = some (t.val : Int) := by decide +kernel
theorem ones64_app {σ : H} {x : Nat} (h : x < 18446744073709551616) : App Tryd.prog (.func 83) #[] #[.int .u64 (x : Int)] σ fun w σ' => σ' = σ ∧ w = .int .i64 (onesF x : Int) := by
 refine App.forget (App.of_sem mixed Tryd.func83 t83 k83 r83 (Nat.le_of_ble_eq_true rfl) ?_)
 rw [← ap_nil (σ := σ)]
 unfold s83
 have s1 : ∀ a : Nat, (a : Int).fdiv (2 ^ (min 1 (IntKind.bits .u64))) = ((a / 2 : Nat) : Int) := fun a => by rw [shr_nat (by decide), Nat.shiftRight_eq_div_pow]
 have s2 : ∀ a : Nat, (a : Int).fdiv (2 ^ (min 2 (IntKind.bits .u64))) = ((a / 4 : Nat) : Int) := fun a => by rw [shr_nat (by decide), Nat.shiftRight_eq_div_pow]
 have s4 : ∀ a : Nat, (a : Int).fdiv (2 ^ (min 4 (IntKind.bits .u64))) = ((a / 16 : Nat) : Int) := fun a => by rw [shr_nat (by decide), Nat.shiftRight_eq_div_pow]
 have s8 : ∀ a : Nat, (a : Int).fdiv (2 ^ (min 8 (IntKind.bits .u64))) = ((a / 256 : Nat) : Int) := fun a => by rw [shr_nat (by decide), Nat.shiftRight_eq_div_pow]
 have s16 : ∀ a : Nat, (a : Int).fdiv (2 ^ (min 16 (IntKind.bits .u64))) = ((a / 65536 : Nat) : Int) := fun a => by rw [shr_nat (by decide), Nat.shiftRight_eq_div_pow]
 have s32 : ∀ a : Nat, (a : Int).fdiv (2 ^ (min 32 (IntKind.bits .u64))) = ((a / 4294967296 : Nat) : Int) := fun a => by rw [shr_nat (by decide), Nat.shiftRight_eq_div_pow]
 have A : ∀ a m : Nat, a < 18446744073709551616 → m < 18446744073709551616 → IntKind.wrap .u64 (((BitVec.ofInt IntKind.u64.bits (a : Int) &&& BitVec.ofInt IntKind.u64.bits (m : Int)).toNat : Nat) : Int) = ((a &&& m : Nat) : Int) := fun a m ha hm => by
  have e1 : (BitVec.ofInt IntKind.u64.bits (a : Int)).toNat = a := by rw [BitVec.ofInt_natCast, BitVec.toNat_ofNat]; exact Nat.mod_eq_of_lt ha
  have e2 : (BitVec.ofInt IntKind.u64.bits (m : Int)).toNat = m := by rw [BitVec.ofInt_natCast, BitVec.toNat_ofNat]; exact Nat.mod_eq_of_lt hm
  rw [BitVec.toNat_and, e1, e2]
  have := Nat.and_le_left (n := a) (m := m)
  exact wrap_u64 (by omega) (by omega)
 have A5 : ∀ a : Nat, a < 18446744073709551616 → IntKind.wrap .u64 (((BitVec.ofInt IntKind.u64.bits (a : Int) &&& BitVec.ofInt IntKind.u64.bits 6148914691236517205).toNat : Nat) : Int) = ((a &&& 6148914691236517205 : Nat) : Int) := fun a ha => A a 6148914691236517205 ha (by decide)
 have A3 : ∀ a : Nat, a < 18446744073709551616 → IntKind.wrap .u64 (((BitVec.ofInt IntKind.u64.bits (a : Int) &&& BitVec.ofInt IntKind.u64.bits 3689348814741910323).toNat : Nat) : Int) = ((a &&& 3689348814741910323 : Nat) : Int) := fun a ha => A a 3689348814741910323 ha (by decide)
 have A0 : ∀ a : Nat, a < 18446744073709551616 → IntKind.wrap .u64 (((BitVec.ofInt IntKind.u64.bits (a : Int) &&& BitVec.ofInt IntKind.u64.bits 1085102592571150095).toNat : Nat) : Int) = ((a &&& 1085102592571150095 : Nat) : Int) := fun a ha => A a 1085102592571150095 ha (by decide)
 have W : ∀ a b : Nat, a + b < 18446744073709551616 → IntKind.wrap .u64 ((a : Int) + (b : Int)) = ((a + b : Nat) : Int) := fun a b ha => by rw [wrap_u64 (by omega) (by omega)]; omega
 have S := swar_spec h
 simp only [] at S
 obtain ⟨a, ha⟩ : ∃ a, a = (x / 2 &&& 6148914691236517205) + (x &&& 6148914691236517205) := ⟨_, rfl⟩
 rw [← ha] at S
 obtain ⟨b, hb⟩ : ∃ b, b = (a / 4 &&& 3689348814741910323) + (a &&& 3689348814741910323) := ⟨_, rfl⟩
 rw [← hb] at S
 obtain ⟨c, hc⟩ : ∃ c, c = (b / 16 + b) &&& 1085102592571150095 := ⟨_, rfl⟩
 rw [← hc] at S
 obtain ⟨b1, b2, b3, b4, b5, b6, b7⟩ := S
 have f1 := A5 (x / 2) (Nat.lt_of_le_of_lt (Nat.div_le_self x 2) h)
 have f2 := A5 x h
 have f3 := W (x / 2 &&& 6148914691236517205) (x &&& 6148914691236517205) (by rw [← ha]; exact b1)
 rw [← ha] at f3
 have f4 := A3 (a / 4) (Nat.lt_of_le_of_lt (Nat.div_le_self a 4) b1)
 have f5 := A3 a b1
 have f6 := W (a / 4 &&& 3689348814741910323) (a &&& 3689348814741910323) (by rw [← hb]; exact Nat.lt_trans b2 (by decide))
 rw [← hb] at f6
 have f7 := W (b / 16) b b3
 have f8 := A0 (b / 16 + b) b3
 rw [← hc] at f8
 have f9 := W c (c / 256) b4
 have f10 := W (c + c / 256) ((c + c / 256) / 65536) b5
 have f11 := W (c + c / 256 + (c + c / 256) / 65536) ((c + c / 256 + (c + c / 256) / 65536) / 4294967296) b6
 clear ha hb hc
 simp only [↓eD, eZ, ↓reduceIte, Nat.reduceEqDiff, Nat.reduceAdd, Nat.reduceMul, reduceCtorEq, Nat.reduceLeDiff, Int.reduceLT, Int.reduceLE, Int.reduceToNat, Int.reduceEq, Nat.reduceLT, s1, s2, s4, s8, s16, s32, f1, f2, f3, f4, f5, f6, f7, f8, f9, f10, f11, undef_eq]
 generalize c + c / 256 + (c + c / 256) / 65536 + (c + c / 256 + (c + c / 256) / 65536) / 4294967296 = z at *
 have o7 : onesF x < 128 := by rw [← b7]; exact Nat.mod_lt _ (by decide)
 have fz : IntKind.wrap .i64 (((BitVec.ofInt IntKind.i64.bits (IntKind.wrap .i64 (z : Int)) &&& BitVec.ofInt IntKind.i64.bits 127).toNat : Nat) : Int) = (onesF x : Int) := by
  have e1 : (BitVec.ofInt IntKind.i64.bits (IntKind.wrap .i64 (z : Int))).toNat = z := by
   have e0 : (BitVec.ofInt IntKind.i64.bits (IntKind.wrap .i64 (z : Int))).toNat = (IntKind.wrap .i64 (z : Int) % 18446744073709551616).toNat := BitVec.toNat_ofInt ..
   have e9 : IntKind.wrap .i64 (z : Int) % 18446744073709551616 = (z : Int) := by
    simp only [IntKind.wrap, IntKind.signed, IntKind.bits]; simp; omega
   rw [e0, e9, Int.toNat_natCast]
  have e2 : (BitVec.ofInt IntKind.i64.bits 127).toNat = 2 ^ 7 - 1 := rfl
  rw [BitVec.toNat_and, e1, e2, Nat.and_two_pow_sub_one_eq_mod, show z % 2 ^ 7 = z % 128 from rfl, b7, wrap64' (by omega) (by omega)]
 rw [fz]
 first | exact ⟨.ap, rfl, rfl⟩ | exact ⟨.ap, rfl⟩ | exact .ap
theorem tz64_app {σ : H} {t q k : Nat} (hk : t + k + 1 = 64) (h : 2 ^ t * (2 * q + 1) < 2 ^ 64) (hG : BGlob σ) : App Tryd.prog (.func 71) #[] #[.int .u64 ((2 ^ t * (2 * q + 1) : Nat) : Int)] σ fun w σ' => σ' = σ ∧ w = .int .i64 (t : Int) := by
 refine App.forget (App.of_sem mixed Tryd.func71 t71 k71 r71 (Nat.le_of_ble_eq_true rfl) ?_)
 rw [← ap_nil (σ := σ)]
 unfold s71
 have hp : 0 < 2 ^ t := Nat.pow_pos (by omega)
 have hx0 : 0 < 2 ^ t * (2 * q + 1) := Nat.mul_pos hp (by omega)
 have lb := low_bit hk h
 have ht := tab_at ⟨t, by omega⟩
 simp only at ht
 have ht64 : 2 ^ t < 18446744073709551616 := by
  have := Nat.pow_lt_pow_right (a := 2) (by omega) (show t < 64 by omega)
  exact this
 generalize 2 ^ t * (2 * q + 1) = x at *
 rw [show (2 : Nat) ^ 64 = 18446744073709551616 from rfl] at h lb
 have d0 : decide (((x : Nat) : Int) = 0) = false := by rw [decide_eq_false]; omega
 have f1 : IntKind.wrap .u64 (0 - (x : Int)) = ((18446744073709551616 - x : Nat) : Int) := by
  rw [wrap_u64_mod]
  omega
 have e1 : (BitVec.ofInt IntKind.u64.bits (x : Int)).toNat = x := by rw [BitVec.ofInt_natCast, BitVec.toNat_ofNat]; exact Nat.mod_eq_of_lt h
 have e2 : (BitVec.ofInt IntKind.u64.bits ((18446744073709551616 - x : Nat) : Int)).toNat = 18446744073709551616 - x := by rw [BitVec.ofInt_natCast, BitVec.toNat_ofNat]; exact Nat.mod_eq_of_lt (show _ < 18446744073709551616 by omega)
 have f2 : IntKind.wrap .u64 (((BitVec.ofInt IntKind.u64.bits (x : Int) &&& BitVec.ofInt IntKind.u64.bits ((18446744073709551616 - x : Nat) : Int)).toNat : Nat) : Int) = ((2 ^ t : Nat) : Int) := by
  rw [BitVec.toNat_and, e1, e2, lb]
  exact wrap_u64 (by omega) (by omega)
 generalize 2 ^ t = p at *
 have f3 : IntKind.wrap .u64 ((p : Int) * 285870213051353865) = ((p * 285870213051353865 % 18446744073709551616 : Nat) : Int) := by
  rw [wrap_u64_mod]
  omega
 obtain ⟨y, hy⟩ : ∃ y, y = p * 285870213051353865 % 18446744073709551616 := ⟨_, rfl⟩
 have hy2 : y < 18446744073709551616 := by rw [hy]; exact Nat.mod_lt _ (by decide)
 rw [← hy] at f3 ht
 obtain ⟨j, hj⟩ : ∃ j, j = y / 288230376151711744 := ⟨_, rfl⟩
 rw [← hj] at ht
 have s58 : (y : Int).fdiv (2 ^ (min 58 (IntKind.bits .u64))) = (j : Int) := by rw [shr_nat (by decide), Nat.shiftRight_eq_div_pow, hj]
 have hb : (0 : Int) ≤ (j : Int) ∧ (j : Int) < ((64 : Nat) : Int) := by clear f1 f2 f3 s58 e1 e2 lb; omega
 have hr : rd1 (ap σ []) ⟨1, j, none⟩ = some (.int .u8 (t : Int)) := rd1_old (by
  have h9 := rd1_row hG (j := j) (v := .int .u8 (t : Int)) (by rw [digC, List.getElem?_map, ht]; rfl)
  rw [Nat.zero_add] at h9
  exact h9)
 have wt : IntKind.wrap .i64 (t : Int) = (t : Int) := wrap64' (by omega) (by omega)
 clear hy hj ht lb hx0 e1 e2
 simp only [↓eD, eZ, ↓reduceIte, Nat.reduceEqDiff, Nat.reduceAdd, Nat.reduceMul, reduceCtorEq, Nat.reduceLeDiff, Int.reduceLT, Int.reduceLE, Int.reduceToNat, Int.reduceEq, Nat.reduceLT, d0, f1, f2, f3, s58, hb, Int.toNat_natCast, hr, wt, undef_eq]
 first | exact ⟨.ap, rfl, rfl⟩ | exact ⟨.ap, rfl⟩ | exact .ap
theorem ones_app {σ : H} {x : Nat} (h : x < 18446744073709551616) : App Tryd.prog (.func 69) #[] #[.int .u64 (x : Int)] σ fun w σ' => σ' = σ ∧ w = .int .i64 (onesF x : Int) := by
 refine App.of_sem mixed Tryd.func69 t69 k69 r69 (Nat.le_of_ble_eq_true rfl) ?_
 unfold s69
 simp only [↓eD, eZ, ↓reduceIte, Nat.reduceEqDiff, Nat.reduceAdd, Nat.reduceMul, reduceCtorEq, Nat.reduceLeDiff, Int.reduceLT, Int.reduceLE, Int.reduceToNat, Int.reduceEq, Nat.reduceLT, undef_eq]
 refine appK_at (ones64_app h) ?_
 simp only [↓eD, eZ, ↓reduceIte, Nat.reduceEqDiff, Nat.reduceAdd, Nat.reduceMul, reduceCtorEq, Nat.reduceLeDiff, Int.reduceLT, Int.reduceLE, Int.reduceToNat, Int.reduceEq, Nat.reduceLT, undef_eq]
theorem tz_app {σ : H} {t q k : Nat} (hk : t + k + 1 = 64) (h : 2 ^ t * (2 * q + 1) < 2 ^ 64) (hG : BGlob σ) : App Tryd.prog (.func 55) #[] #[.int .u64 ((2 ^ t * (2 * q + 1) : Nat) : Int)] σ fun w σ' => σ' = σ ∧ w = .int .i64 (t : Int) := by
 refine App.of_sem mixed Tryd.func55 t55 k55 r55 (Nat.le_of_ble_eq_true rfl) ?_
 unfold s55
 simp only [↓eD, eZ, ↓reduceIte, Nat.reduceEqDiff, Nat.reduceAdd, Nat.reduceMul, reduceCtorEq, Nat.reduceLeDiff, Int.reduceLT, Int.reduceLE, Int.reduceToNat, Int.reduceEq, Nat.reduceLT, undef_eq]
 refine appK_at (tz64_app hk h hG) ?_
 simp only [↓eD, eZ, ↓reduceIte, Nat.reduceEqDiff, Nat.reduceAdd, Nat.reduceMul, reduceCtorEq, Nat.reduceLeDiff, Int.reduceLT, Int.reduceLE, Int.reduceToNat, Int.reduceEq, Nat.reduceLT, undef_eq]
def formedF (n : Int) (T : List (List Int)) : Bool := decide (0 ≤ n ∧ n ≤ 1099511627776 ∧ T.length = onesF n.toNat)
theorem lformed_app {σ : H} {v : Value} {n : Int} {T : List (List Int)} (hT : Ls σ v T) :
  App Tryd.prog (.func 54) #[] #[.agg #[.int .i64 n, v]] σ fun w σ' => σ' = σ ∧ w = .bool (formedF n T) := by
 refine App.forget (App.of_sem mixed Tryd.func54 t54 k54 r54 (Nat.le_of_ble_eq_true rfl) ?_)
 obtain ⟨a, c, rfl⟩ := hT.slice
 unfold s54 formedF
 rw [← ap_nil (σ := σ)]
 by_cases g1 : 0 ≤ n
 case neg =>
  have d1 : decide (0 ≤ n) = false := decide_eq_false g1
  rw [decide_eq_false (fun h => g1 h.1)]
  simp only [↓eD, eZ, ↓reduceIte, Nat.reduceEqDiff, Nat.reduceAdd, Nat.reduceMul, reduceCtorEq, Nat.reduceLeDiff, Int.reduceLT, Int.reduceLE, Int.reduceToNat, Int.reduceEq, Nat.reduceLT, d1, undef_eq]
  first | exact ⟨.ap, by simp [flat], rfl⟩ | exact ⟨.ap, by simp [flat]⟩ | exact .ap
 have d1 : decide (0 ≤ n) = true := decide_eq_true g1
 by_cases g2 : n ≤ 1099511627776
 case neg =>
  have d2 : decide (n ≤ 1099511627776) = false := decide_eq_false g2
  rw [decide_eq_false (fun h => g2 h.2.1)]
  simp only [↓eD, eZ, ↓reduceIte, Nat.reduceEqDiff, Nat.reduceAdd, Nat.reduceMul, reduceCtorEq, Nat.reduceLeDiff, Int.reduceLT, Int.reduceLE, Int.reduceToNat, Int.reduceEq, Nat.reduceLT, d1, d2, undef_eq]
  first | exact ⟨.ap, by simp [flat], rfl⟩ | exact ⟨.ap, by simp [flat]⟩ | exact .ap
 have d2 : decide (n ≤ 1099511627776) = true := decide_eq_true g2
 obtain ⟨x, rfl⟩ : ∃ x : Nat, n = (x : Int) := ⟨n.toNat, by omega⟩
 have wx : IntKind.wrap .u64 (x : Int) = (x : Int) := wrap_u64 (by omega) (by omega)
 simp only [↓eD, eZ, ↓reduceIte, Nat.reduceEqDiff, Nat.reduceAdd, Nat.reduceMul, reduceCtorEq, Nat.reduceLeDiff, Int.reduceLT, Int.reduceLE, Int.reduceToNat, Int.reduceEq, Nat.reduceLT, d1, d2, wx, undef_eq]
 refine appK_at (ones_app (by omega)) ?_
 simp only [↓eD, eZ, ↓reduceIte, Nat.reduceEqDiff, Nat.reduceAdd, Nat.reduceMul, reduceCtorEq, Nat.reduceLeDiff, Int.reduceLT, Int.reduceLE, Int.reduceToNat, Int.reduceEq, Nat.reduceLT, undef_eq]
 rw [Int.toNat_natCast]
 refine ⟨.ap, by simp [flat], ?_⟩
 by_cases g3 : T.length = onesF x
 ·rw [decide_eq_true (show (0 : Int) ≤ (x : Int) ∧ (x : Int) ≤ 1099511627776 ∧ T.length = onesF x from ⟨g1, g2, g3⟩), decide_eq_true (show (T.length : Int) = (onesF x : Int) by omega)]
 ·rw [decide_eq_false (show ¬((0 : Int) ≤ (x : Int) ∧ (x : Int) ≤ 1099511627776 ∧ T.length = onesF x) from fun h => g3 h.2.2), decide_eq_false (show ¬(T.length : Int) = (onesF x : Int) by omega)]
theorem yield_step {l n ver ver1 : Nat} {R : Rnd} {W : List Value → H → (Env → H → Prop) → Prop} {B : Env → H → (Exit → Env → H → Prop) → Prop} {pend pend1 : Option Code} {τ : H} {vs : List Value} {Ky : Value → H → Prop} (hY : Cn.Yields Tryd.prog l n R W B) (hτ : τ[l]? = some (.loop ver .ready pend R)) (hn : vs.length = n)
  (E : Env) (τ1 : H) (h1 : ∀ A : Env → H → Prop, A E τ1 → W vs τ A) (hl : τ1[l]? = some (.loop ver1 .ready pend1 R)) (h2 : B E (τ1.setIfInBounds l (.loop (ver1 + 1) .busy pend1 R)) (Cn.roundK l R Ky)) : App Tryd.prog (.yield l) #[] vs.toArray τ Ky :=
 hY ver pend τ vs Ky hτ hn (h1 _ ⟨ver1, pend1, hl, h2⟩)
theorem dig_put' {θ : H} {b ver : Nat} {D E : List Int} (hD : D.length = 16) (hE : E.length = 16) (hb : θ[b]? = some (.cells ver (digC E) (0, 0))) :
  wrN θ ⟨b, 0, none⟩ (digC D) = some (θ.setIfInBounds b (.cells (ver + 1) (digC D) (0, 0))) := by
 have lD : (digC D).length = 16 := by rw [digC_length, hD]
 have lE : (digC E).length = 16 := by rw [digC_length, hE]
 rw [wrN_eq, if_neg (by intro h9; rw [h9] at lD; cases lD), hb, wrc_cells, if_pos ⟨by rw [lD, lE]; show 0 + 16 ≤ 16; omega, digC_one⟩, sets_all (by rw [lD, lE]; show 0 + 16 ≤ 16; omega)]
 have e9 : List.drop 16 (digC E) = [] := List.drop_of_length_le (by omega)
 rw [lD, e9, List.append_nil]
 rfl
theorem back1_app {σ : H} {y : Fn} {q : Nat} {L : List (List Int)} {a : Option Addr} {c : Nat} (hn : L.length < 1000000) (I : Nat → H → Prop) (h0 : I 0 σ)
  (hq : ∀ i τ, I i τ → σ.size ≤ τ.size → rd1 τ ⟨q, 0, none⟩ = some (.slice a L.length c) ∧ Ls τ (.slice a L.length c) L)
  (hy : ∀ i, (h : i < L.length) → ∀ τ, σ.size ≤ τ.size → I i τ → App Tryd.prog y #[] #[.int .i64 ((L.length - 1 - i : Nat) : Int), .agg (digC (L[L.length - 1 - i]'(by omega))).toArray] τ fun v τ' => σ.size ≤ τ'.size ∧ v = .bool true ∧ I (i + 1) τ') :
  App Tryd.prog (.func 72) #[.pointer (some ⟨q, 0, none⟩)] #[.func y #[] #[]] σ fun _ τ => I L.length τ := by
 refine App.of_sem mixed Tryd.func72 t72 k72 r72 (Nat.le_of_ble_eq_true rfl) ?_
 unfold s72
 obtain ⟨g0, _⟩ := hq 0 σ h0 (Nat.le_refl _)
 have w0 : IntKind.wrap .i64 ((L.length : Int) - 1) = (L.length : Int) - 1 - ((0 : Nat) : Int) := by rw [wrap64' (by omega) (by omega)]; omega
 simp only [↓eD, eZ, ↓reduceIte, Nat.reduceEqDiff, Nat.reduceAdd, Nat.reduceMul, reduceCtorEq, Nat.reduceLeDiff, Int.reduceLT, Int.reduceLE, Int.reduceToNat, Int.reduceEq, Nat.reduceLT, g0, w0, undef_eq]
 refine loop_for (J := fun i e τ => i ≤ L.length ∧ e = [(0, .func y #[] #[]), (1, .pointer (some ⟨q, 0, none⟩)), (3, .int .i64 ((L.length : Int) - 1 - (i : Int)))] ∧ σ.size ≤ τ.size ∧ I i τ) L.length
  ⟨by omega, rfl, Nat.le_refl _, h0⟩ ?_
 rintro i e τ hi ⟨_, rfl, hsz, hI⟩
 obtain ⟨gq, hL⟩ := hq i τ hI hsz
 by_cases hlt : i < L.length
 ·have d0 : decide (0 ≤ (L.length : Int) - 1 - (i : Int)) = true := by rw [decide_eq_true]; omega
  have hj : (L.length : Int) - 1 - (i : Int) = ((L.length - 1 - i : Nat) : Int) := by omega
  have hb : (0 : Int) ≤ ((L.length - 1 - i : Nat) : Int) ∧ ((L.length - 1 - i : Nat) : Int) < (L.length : Int) := by omega
  have hw : IntKind.wrap .i64 (((L.length - 1 - i : Nat) : Int) - 1) = (L.length : Int) - 1 - ((i + 1 : Nat) : Int) := by rw [wrap64' (by omega) (by omega)]; omega
  rw [hj] at d0 ⊢
  obtain ⟨b, o, rfl, hr⟩ := hL.at (i := L.length - 1 - i) (by omega)
  simp only [↓eD, eZ, ↓reduceIte, Nat.reduceEqDiff, Nat.reduceAdd, Nat.reduceMul, reduceCtorEq, Nat.reduceLeDiff, Int.reduceLT, Int.reduceLE, Int.reduceToNat, Int.reduceEq, Nat.reduceLT, d0, gq, hb, Int.toNat_natCast, hr, undef_eq]
  refine appK_of (hy i hlt τ hsz hI) ?_
  rintro _ τ2 ⟨hs2, rfl, hI2⟩
  simp only [↓eD, eZ, ↓reduceIte, Nat.reduceEqDiff, Nat.reduceAdd, Nat.reduceMul, reduceCtorEq, Nat.reduceLeDiff, Int.reduceLT, Int.reduceLE, Int.reduceToNat, Int.reduceEq, Nat.reduceLT, hw, Bool.not_true, undef_eq]
  exact ⟨hlt, by omega, hs2, hI2⟩
 ·have d0 : decide (0 ≤ (L.length : Int) - 1 - (i : Int)) = false := by rw [decide_eq_false]; omega
  have : i = L.length := by omega
  subst this
  simp only [↓eD, eZ, ↓reduceIte, Nat.reduceEqDiff, Nat.reduceAdd, Nat.reduceMul, reduceCtorEq, Nat.reduceLeDiff, Int.reduceLT, Int.reduceLE, Int.reduceToNat, Int.reduceEq, Nat.reduceLT, d0, undef_eq]
  exact hI
theorem backward_app {σ : H} {a : Option Addr} {n c : Nat} : App Tryd.prog (.func 56) #[] #[.slice a n c] σ fun w σ' => w = .func (.func 72) #[] #[.pointer (some ⟨σ.size, 0, none⟩)] ∧ σ' = ap σ [.cells 0 [.slice a n c] (0, 0)] := by
 refine App.of_sem mixed Tryd.func56 t56 k56 r56 (Nat.le_of_ble_eq_true rfl) ?_
 rw [← ap_nil (σ := σ)]
 unfold s56
 simp only [↓eD, eZ, ↓reduceIte, Nat.reduceEqDiff, Nat.reduceAdd, Nat.reduceMul, reduceCtorEq, Nat.reduceLeDiff, Int.reduceLT, Int.reduceLE, Int.reduceToNat, Int.reduceEq, Nat.reduceLT, undef_eq]
 rw [ap_nil]
theorem clone_app {σ : H} {v : Value} {L : List (List Int)} (hL : Ls σ v L) (hn : L.length ≤ 1000000) :
  App Tryd.prog (.func 57) #[] #[v] σ fun w σ' => Old σ σ' ∧ Grown σ σ' 16 w (L.map digC).flatten L.length := by
 refine App.of_sem mixed Tryd.func57 t57 k57 r57 (Nat.le_of_ble_eq_true rfl) ?_
 obtain ⟨a, c, rfl⟩ := hL.slice
 rw [← ap_nil (σ := σ)]
 unfold s57
 simp only [↓eD, eZ, ↓reduceIte, Nat.reduceEqDiff, Nat.reduceAdd, Nat.reduceMul, reduceCtorEq, Nat.reduceLeDiff, Int.reduceLT, Int.reduceLE, Int.reduceToNat, Int.reduceEq, Nat.reduceLT, undef_eq]
 have hcl : (L.map digC).flatten.length = L.length * 16 := by rw [flatten_length (dig_rows hL.d), List.length_map]
 have hg0 : Grown σ (ap σ [.cells 0 [] (0, 0)]) 16 (.slice (some ⟨σ.size, 0, none⟩) 0 0) [] 0 := Grown.lit (ver := 0) rfl (by decide) (Nat.le_refl _) (by rw [ap_new0]; rfl)
 cases a with
 |some q =>
  refine onV_of (v := .bool false) rfl ?_
  simp only [↓eD, eZ, ↓reduceIte, Nat.reduceEqDiff, Nat.reduceAdd, Nat.reduceMul, reduceCtorEq, Nat.reduceLeDiff, Int.reduceLT, Int.reduceLE, Int.reduceToNat, Int.reduceEq, Nat.reduceLT, undef_eq]
  obtain ⟨w, σ', ha, A⟩ := append_grown (bytes := 16) hg0 (by omega) (by simp [ap_size]) (hL.Old .ap).x hcl dig_ones (by omega) (by omega)
  refine onV_of ha ?_
  have hoo := A.Old hg0 .ap
  have hg := A.grown
  rw [List.nil_append, Nat.zero_add] at hg
  simp only [↓eD, eZ, ↓reduceIte, Nat.reduceEqDiff, Nat.reduceAdd, Nat.reduceMul, reduceCtorEq, Nat.reduceLeDiff, Int.reduceLT, Int.reduceLE, Int.reduceToNat, Int.reduceEq, Nat.reduceLT, undef_eq]
  exact ⟨hoo, hg⟩
 |none =>
  have h0 : L = [] := by
   rcases Nat.eq_zero_or_pos L.length with h | h
   ·exact List.eq_nil_of_length_eq_zero h
   ·obtain ⟨_, _, h9, _⟩ := hL.at h
    cases h9
  subst h0
  refine onV_of (v := .bool true) rfl ?_
  simp only [↓eD, eZ, ↓reduceIte, Nat.reduceEqDiff, Nat.reduceAdd, Nat.reduceMul, reduceCtorEq, Nat.reduceLeDiff, Int.reduceLT, Int.reduceLE, Int.reduceToNat, Int.reduceEq, Nat.reduceLT, undef_eq]
  first | exact ⟨.refl, .nil⟩ | exact ⟨.ap, .nil⟩
structure BackI (X θ : H) (bx : Nat) (R : Rnd) (d : List Int) : Prop where
 o : OldB bx X θ
 sz : X.size + 1 ≤ θ.size
 l : ∃ ver, θ[X.size]? = some (.loop ver .ready none R)
 b : ∃ ver, θ[bx]? = some (.cells ver (digC d) (0, 0))
theorem BackI.after {X θ : H} {bx ver : Nat} {R : Rnd} {d d' : List Int} (h : BackI X θ bx R d) (hb : bx < X.size) {x : Blk} {k : Nat} {B : Blk} (hl : θ[X.size]? = some (.loop ver .ready none R)) :
  BackI X ((((ap θ [x]).setIfInBounds X.size B).setIfInBounds bx (.cells k (digC d') (0, 0))).setIfInBounds X.size (.loop (ver + 1 + 1) .ready none R)) bx R d' := by
 have hlt : X.size < θ.size := (Array.getElem?_eq_some_iff.1 hl).1
 obtain ⟨vb, h4⟩ := h.b
 have o1 := h.o.1
 have o2 := h.o.2
 have hs := h.sz
 clear h
 have a1 : (ap θ [x])[X.size]? = some (.loop ver .ready none R) := (ap_old hlt).trans hl
 have a2 : (ap θ [x])[bx]? = some (.cells vb (digC d) (0, 0)) := (ap_old (by omega)).trans h4
 have a3 : ∀ c, c < X.size → c ≠ bx → (ap θ [x])[c]? = X[c]? := fun c hc hcb => (ap_old (by omega)).trans (o2 c hc hcb)
 have a4 : (ap θ [x]).size = θ.size + 1 := by simp [ap_size]
 generalize ap θ [x] = A at *
 have b1 : (A.setIfInBounds X.size B)[X.size]? = some B := get_set a1
 have b2 : (A.setIfInBounds X.size B)[bx]? = some (.cells vb (digC d) (0, 0)) := (get_set_ne (by omega)).trans a2
 have b3 : ∀ c, c < X.size → c ≠ bx → (A.setIfInBounds X.size B)[c]? = X[c]? := fun c hc hcb => (get_set_ne (by omega)).trans (a3 c hc hcb)
 have b4 : (A.setIfInBounds X.size B).size = θ.size + 1 := by rw [Array.size_setIfInBounds, a4]
 generalize A.setIfInBounds X.size B = C at *
 have c1 : (C.setIfInBounds bx (.cells k (digC d') (0, 0)))[X.size]? = some B := (get_set_ne (by omega)).trans b1
 have c2 : (C.setIfInBounds bx (.cells k (digC d') (0, 0)))[bx]? = some (.cells k (digC d') (0, 0)) := get_set b2
 have c3 : ∀ c, c < X.size → c ≠ bx → (C.setIfInBounds bx (.cells k (digC d') (0, 0)))[c]? = X[c]? := fun c hc hcb => (get_set_ne (Ne.symm hcb)).trans (b3 c hc hcb)
 have c4 : (C.setIfInBounds bx (.cells k (digC d') (0, 0))).size = θ.size + 1 := by rw [Array.size_setIfInBounds, b4]
 generalize C.setIfInBounds bx (.cells k (digC d') (0, 0)) = D at *
 exact ⟨⟨by rw [Array.size_setIfInBounds]; omega, fun c hc hcb => (get_set_ne (by omega)).trans (c3 c hc hcb)⟩, by rw [Array.size_setIfInBounds]; omega, ⟨_, get_set c1⟩, ⟨k, (get_set_ne (by omega)).trans c2⟩⟩
theorem fold_len {D : List (List Int)} {d : List Int} (h : ∀ x ∈ D, x.length = 16) (hd : d.length = 16) : (D.foldr nodeF d).length = 16 := by
 cases D with
 |nil => exact hd
 |cons x r => exact nodeF_len
theorem fold_step {D : List (List Int)} {d : List Int} {i : Nat} (h : i < D.length) : (D.drop (D.length - (i + 1))).foldr nodeF d = nodeF (D[D.length - 1 - i]'(by omega)) ((D.drop (D.length - i)).foldr nodeF d) := by
 rw [List.drop_eq_getElem_cons (i := D.length - (i + 1)) (by omega), List.foldr_cons, show D.length - (i + 1) + 1 = D.length - i by omega]
 congr 1
 congr 1
 omega
def appE (n : Int) (T : List (List Int)) : Int := if formedF n T = true then (if n = 1099511627776 then 2 else 0) else 3
def appN (n : Int) (T : List (List Int)) : Int := if appE n T = 0 then n + 1 else 0
def keepF (n : Int) (T : List (List Int)) : Nat := T.length - tz1 n.toNat
def appT (n : Int) (T : List (List Int)) (leaf : List Int) : List (List Int) := if appE n T = 0 then T.take (keepF n T) ++ [(T.drop (keepF n T)).foldr nodeF leaf] else []
theorem comp_form {n : Nat} (h : n < 1099511627776) : ∃ q k, tz1 n + k + 1 = 64 ∧ 18446744073709551615 - n = 2 ^ tz1 n * (2 * q + 1) := by
 obtain ⟨q, hq⟩ := tz1_form n n (Nat.le_refl _)
 have ht := tz1_le n n (Nat.le_refl _)
 have ho := onesF_le (k := 40) (a := n) h
 obtain ⟨t, e⟩ : ∃ t, t = tz1 n := ⟨_, rfl⟩
 rw [← e] at hq ht ⊢
 have hp : 0 < 2 ^ t := Nat.pow_pos (by omega)
 have e64 : 18446744073709551616 = 2 ^ t * (2 ^ (63 - t) * 2) := by rw [← Nat.pow_succ, ← Nat.pow_add, show t + (63 - t + 1) = 64 by omega]
 have hlt : 2 * q + 1 < 2 ^ (63 - t) * 2 := by
  have : 2 ^ t * (2 * q + 1) < 2 ^ t * (2 ^ (63 - t) * 2) := by rw [← e64, ← hq]; omega
  exact Nat.lt_of_mul_lt_mul_left this
 refine ⟨2 ^ (63 - t) - 1 - q, 63 - t, by omega, ?_⟩
 rw [show 2 * (2 ^ (63 - t) - 1 - q) + 1 = 2 ^ (63 - t) * 2 - (2 * q + 1) by omega, Nat.mul_sub, ← hq, ← e64]
 omega
theorem xor_not {x y : Nat} (h : x < 18446744073709551616) (hy : 18446744073709551615 - x = y) : unop UnOp.xor (.int .u64 (x : Int)) = some (.int .u64 (y : Int)) := by
 show some (Value.int .u64 (IntKind.wrap .u64 (BitVec.ofInt 64 18446744073709551615 ^^^ BitVec.ofInt 64 (x : Int)).toNat)) = _
 rw [show BitVec.ofInt 64 18446744073709551615 = BitVec.allOnes 64 from rfl, BitVec.allOnes_xor, BitVec.toNat_not, BitVec.ofInt_natCast, BitVec.toNat_ofNat, Nat.mod_eq_of_lt (show x < 2 ^ 64 from h), show 2 ^ 64 - 1 - x = y from hy, wrap_u64 (by omega) (by omega)]
theorem lappend_app {σ : H} {v : Value} {n : Int} {T : List (List Int)} {leaf : List Int} (hT : Ls σ v T) (hl : leaf.length = 16) (hn : T.length ≤ 1000) (hG : HGlob σ) (hB : BGlob σ) :
  App Tryd.prog (.func 28) #[] #[.agg #[.int .i64 n, v], .agg (digC leaf).toArray] σ fun w σ' => Old σ σ' ∧ ∃ u, w = .tuple #[.agg #[.int .i64 (appN n T), u], .int .i64 (appE n T)] ∧ Grown σ σ' 16 u ((appT n T leaf).map digC).flatten (appT n T leaf).length ∧ ∀ d ∈ appT n T leaf, d.length = 16 := by
 refine App.of_sem mixed Tryd.func28 t28 k28 r28 (Nat.le_of_ble_eq_true rfl) ?_
 obtain ⟨a, c, rfl⟩ := hT.slice
 obtain ⟨q1, q2, q3, q4⟩ := dig_len hl
 rw [← ap_nil (σ := σ)]
 unfold s28
 simp only [↓eD, eZ, ↓reduceIte, Nat.reduceEqDiff, Nat.reduceAdd, Nat.reduceMul, reduceCtorEq, Nat.reduceLeDiff, Int.reduceLT, Int.reduceLE, Int.reduceToNat, Int.reduceEq, Nat.reduceLT, rep16, q1, q2, undef_eq]
 obtain ⟨Z, hZ⟩ : ∃ Z, Z = ap σ [.cells 0 [.int .i64 n, .slice a T.length c] (0, 0), .cells 0 (digC leaf) (0, 0), .cells 0 [.int .i64 0, .slice none 0 0] (0, 0)] := ⟨_, rfl⟩
 rw [← hZ]
 have oZ : Old σ Z := by rw [hZ]; exact .ap
 have sZ : Z.size = σ.size + 3 := by rw [hZ]; simp [ap_size]
 have z0 : Z[σ.size]? = some (.cells 0 [.int .i64 n, .slice a T.length c] (0, 0)) := by rw [hZ, ap_new0]; rfl
 have z1 : Z[σ.size + 1]? = some (.cells 0 (digC leaf) (0, 0)) := by rw [hZ, ap_new]; rfl
 have z2 : Z[σ.size + 2]? = some (.cells 0 [.int .i64 0, .slice none 0 0] (0, 0)) := by rw [hZ, ap_new]; rfl
 clear hZ
 refine appK_at (lformed_app (hT.Old oZ)) ?_
 have pk : ∀ (θ : H) (x : Int) (u : Value), u.oneCell' = true → θ[σ.size + 2]? = some (.cells 0 [.int .i64 0, .slice none 0 0] (0, 0)) → wrN θ ⟨σ.size + 2, 0, none⟩ [.int .i64 x, u] = some (θ.setIfInBounds (σ.size + 2) (.cells 1 [.int .i64 x, u] (0, 0))) ∧ rdN (θ.setIfInBounds (σ.size + 2) (.cells 1 [.int .i64 x, u] (0, 0))) ⟨σ.size + 2, 0, none⟩ 2 = some [.int .i64 x, u] := fun θ x u hu h => by
  refine ⟨?_, rdN_all (get_set h) rfl⟩
  rw [wrN_eq, if_neg (by simp), h, wrc_cells, if_pos ⟨by simp, by simp [hu]; rfl⟩]
  rfl
 cases g1 : formedF n T with
 |false =>
  have hE : appE n T = 3 := by unfold appE; rw [g1]; rfl
  have hN : appN n T = 0 := by unfold appN; rw [hE]; rfl
  have hT' : appT n T leaf = [] := by unfold appT; rw [hE]; rfl
  obtain ⟨w2, r2⟩ := pk Z 0 (.slice none 0 0) rfl z2
  simp only [↓eD, eZ, ↓reduceIte, Nat.reduceEqDiff, Nat.reduceAdd, Nat.reduceMul, reduceCtorEq, Nat.reduceLeDiff, Int.reduceLT, Int.reduceLE, Int.reduceToNat, Int.reduceEq, Nat.reduceLT, w2, r2, Bool.not_false, undef_eq]
  rw [hE, hN, hT']
  exact ⟨oZ.set (by omega), _, rfl, Grown.nil, fun d h => by cases h⟩
 |true =>
 have r0 : rd1 Z ⟨σ.size, 0, none⟩ = some (.int .i64 n) := rd1_of z0 .refl rfl
 by_cases g2 : n = 1099511627776
 ·have d2 : decide (n = 1099511627776) = true := decide_eq_true g2
  have hE : appE n T = 2 := by unfold appE; rw [g1, if_pos rfl, if_pos g2]
  have hN : appN n T = 0 := by unfold appN; rw [hE]; rfl
  have hT' : appT n T leaf = [] := by unfold appT; rw [hE]; rfl
  obtain ⟨w2, r2⟩ := pk Z 0 (.slice none 0 0) rfl z2
  simp only [↓eD, eZ, ↓reduceIte, Nat.reduceEqDiff, Nat.reduceAdd, Nat.reduceMul, reduceCtorEq, Nat.reduceLeDiff, Int.reduceLT, Int.reduceLE, Int.reduceToNat, Int.reduceEq, Nat.reduceLT, w2, r2, r0, d2, Bool.not_true, undef_eq]
  rw [hE, hN, hT']
  exact ⟨oZ.set (by omega), _, rfl, Grown.nil, fun d h => by cases h⟩
 have d2 : decide (n = 1099511627776) = false := decide_eq_false g2
 have hE : appE n T = 0 := by unfold appE; rw [g1, if_pos rfl, if_neg g2]
 have hf : 0 ≤ n ∧ n ≤ 1099511627776 ∧ T.length = onesF n.toNat := by unfold formedF at g1; exact of_decide_eq_true g1
 have hN : appN n T = n + 1 := by unfold appN; rw [hE]; rfl
 have hT' : appT n T leaf = T.take (keepF n T) ++ [(T.drop (keepF n T)).foldr nodeF leaf] := by unfold appT; rw [hE]; rfl
 obtain ⟨x, rfl⟩ : ∃ x : Nat, n = (x : Int) := ⟨n.toNat, by omega⟩
 have htz := tz1_le x x (Nat.le_refl _)
 rw [Int.toNat_natCast] at hf
 obtain ⟨q, k, hk, hx⟩ := comp_form (n := x) (by omega)
 have wx : IntKind.wrap .u64 (x : Int) = (x : Int) := wrap_u64 (by omega) (by omega)
 obtain ⟨t, et⟩ : ∃ t, t = tz1 x := ⟨_, rfl⟩
 have hkp : keepF (x : Int) T = T.length - t := by unfold keepF; rw [Int.toNat_natCast, et]
 rw [hkp] at hT'
 rw [← et] at htz hx hk
 obtain ⟨kp, ek⟩ : ∃ kp, kp = T.length - t := ⟨_, rfl⟩
 rw [← ek] at hT'
 obtain ⟨D, hDD⟩ : ∃ D, D = T.drop kp := ⟨_, rfl⟩
 rw [← hDD] at hT'
 rw [hE, hN, hT']
 clear hE hN hT' hkp
 have r1 : rd1 Z ⟨σ.size, 1, none⟩ = some (.slice a T.length c) := rd1_of z0 .refl rfl
 have hxx : 2 ^ t * (2 * q + 1) < 2 ^ 64 := by rw [← hx]; omega
 have hnx : (some (Value.int .u64 (x : Int))).bind (unop UnOp.xor) = some (.int .u64 ((2 ^ t * (2 * q + 1) : Nat) : Int)) := xor_not (x := x) (by omega) hx
 have wk : IntKind.wrap .i64 ((T.length : Int) - (t : Int)) = ((T.length - t : Nat) : Int) := by rw [wrap64' (by omega) (by omega)]; omega
 rw [← ek] at wk
 have hbig : T.length < big := Nat.lt_of_le_of_lt hn (by decide)
 obtain ⟨v1, s1, L1, _⟩ := hT.sub (lo := kp) (hi := T.length) (xl := some (.int .i64 (kp : Int))) (xh := none) (xm := none) (by omega) (by omega) (by omega) (.inl rfl) (.inr ⟨rfl, rfl, rfl⟩) (.inl rfl)
 obtain ⟨v2, s2, L2, _⟩ := hT.sub (lo := 0) (hi := kp) (xl := none) (xh := some (.int .i64 (kp : Int))) (xm := none) (by omega) (by omega) (by omega) (.inr ⟨rfl, rfl⟩) (.inl rfl) (.inl rfl)
 rw [List.take_length] at L1
 rw [List.drop_zero] at L2
 rw [← hDD] at L1
 have hDl : D.length ≤ 1000 := by rw [hDD, List.length_drop]; omega
 obtain ⟨va, vc, rfl⟩ := L1.slice
 obtain ⟨ua, uc, rfl⟩ := L2.slice
 simp only [↓eD, eZ, ↓reduceIte, Nat.reduceEqDiff, Nat.reduceAdd, Nat.reduceMul, reduceCtorEq, Nat.reduceLeDiff, Int.reduceLT, Int.reduceLE, Int.reduceToNat, Int.reduceEq, Nat.reduceLT, r0, r1, d2, wx, hnx, Bool.not_true, undef_eq]
 refine appK_at (tz_app hk hxx (hB.Old oZ)) ?_
 simp only [↓eD, eZ, ↓reduceIte, Nat.reduceEqDiff, Nat.reduceAdd, Nat.reduceMul, reduceCtorEq, Nat.reduceLeDiff, Int.reduceLT, Int.reduceLE, Int.reduceToNat, Int.reduceEq, Nat.reduceLT, r0, r1, wk, s1, undef_eq]
 refine appK_of backward_app ?_
 rintro _ _ ⟨rfl, rfl⟩
 simp only [↓eD, eZ, ↓reduceIte, Nat.reduceEqDiff, Nat.reduceAdd, Nat.reduceMul, reduceCtorEq, Nat.reduceLeDiff, Int.reduceLT, Int.reduceLE, Int.reduceToNat, Int.reduceEq, Nat.reduceLT, undef_eq]
 obtain ⟨X, hX⟩ : ∃ X, X = ap Z [.cells 0 [.slice va D.length vc] (0, 0)] := ⟨_, rfl⟩
 rw [← hX]
 have sX : X.size = Z.size + 1 := by rw [hX]; simp [ap_size]
 have oX : Old Z X := by rw [hX]; exact .ap
 have x1 : X[Z.size]? = some (.cells 0 [.slice va D.length vc] (0, 0)) := by rw [hX]; exact ap_new0
 clear hX
 refine rng_of (by kernel_rfl) fun R hY => ?_
 have hpz : (X.push (.loop 0 .ready none R)).size = X.size + 1 := by simp
 have hpo : Old X (X.push (.loop 0 .ready none R)) := old_push
 have fdr : ∀ i, ((D.drop (D.length - i)).foldr nodeF leaf).length = 16 := fun i => fold_len (fun x hx => L1.d x (List.mem_of_mem_drop hx)) hl
 refine (back1_app (q := Z.size) (L := D) (a := va) (c := vc) (by omega)
  (fun i θ => BackI X θ (σ.size + 1) R ((D.drop (D.length - i)).foldr nodeF leaf))
  ⟨⟨by simp, fun c h1 _ => hpo.2 c h1⟩, by simp, ⟨0, by simp⟩, 0, by rw [Nat.sub_zero, List.drop_length]; exact (hpo.2 _ (by omega)).trans ((oX.2 _ (by omega)).trans z1)⟩ ?_ ?_).mono ?_
 ·rintro i τ hI _
  have q1 : τ[Z.size]? = some (.cells 0 [.slice va D.length vc] (0, 0)) := (hI.o.2 _ (by omega) (by omega)).trans x1
  obtain ⟨vb, x4⟩ := hI.b
  refine ⟨rd1_of q1 .refl rfl, ?_⟩
  have oσ : Old σ τ := ⟨by have := hI.o.1; omega, fun c hc => (hI.o.2 c (by omega) (by omega)).trans ((oX.2 c (by omega)).trans (oZ.2 c hc))⟩
  exact L1.Old oσ
 ·rintro i hi τ hz hI
  obtain ⟨vl, x3⟩ := hI.l
  obtain ⟨vb, x4⟩ := hI.b
  have fs := fold_step (d := leaf) hi
  have fl := fdr i
  have fl' := fdr (i + 1)
  have hx16 : (D[D.length - 1 - i]'(by omega)).length = 16 := L1.d _ (List.getElem_mem _)
  generalize D[D.length - 1 - i]'(by omega) = x at fs hx16 ⊢
  rw [fs] at fl' ⊢
  generalize (D.drop (D.length - i)).foldr nodeF leaf = E at *
  obtain ⟨m1, m2, m3, m4⟩ := dig_len hx16
  refine yield_step hY x3 rfl [(3, .pointer (some ⟨σ.size + 1, 0, none⟩)), (8, .pointer (some ⟨τ.size, 0, none⟩))] (ap τ [.cells 1 (digC x) (0, 0)]) (fun A hA => ?_) ((ap_old (Array.getElem?_eq_some_iff.1 x3).1).trans x3) ?_
  ·rw [← ap_nil (σ := τ)]
   simp only [↓eD, eZ, ↓reduceIte, Nat.reduceEqDiff, Nat.reduceAdd, Nat.reduceMul, reduceCtorEq, Nat.reduceLeDiff, Int.reduceLT, Int.reduceLE, Int.reduceToNat, Int.reduceEq, Nat.reduceLT, rep16, m1, m2, m3, m4, digC_one]
   exact hA
  ·have hF := hI.after (d' := nodeF x E) (by omega) (x := .cells 1 (digC x) (0, 0)) (k := vb + 1) (B := .loop (vl + 1) .busy none R) x3
   obtain ⟨η, hη⟩ : ∃ η, η = (ap τ [.cells 1 (digC x) (0, 0)]).setIfInBounds X.size (.loop (vl + 1) .busy none R) := ⟨_, rfl⟩
   rw [← hη] at hF ⊢
   have hlt : X.size < τ.size := (Array.getElem?_eq_some_iff.1 x3).1
   have e7 : η[τ.size]? = some (.cells 1 (digC x) (0, 0)) := by rw [hη]; exact (get_set_ne (by omega)).trans ap_new0
   have e5 : η[σ.size + 1]? = some (.cells vb (digC E) (0, 0)) := by rw [hη]; exact (get_set_ne (by omega)).trans ((ap_old (by omega)).trans x4)
   have el : η[X.size]? = some (.loop (vl + 1) .busy none R) := by rw [hη]; exact get_set ((ap_old hlt).trans x3)
   have sη : η.size = τ.size + 1 := by rw [hη]; simp [ap_size]
   have oη : Old σ η := by
    rw [hη]
    exact ⟨by simp [ap_size]; omega, fun c hc => by rw [get_set_ne (by omega), ap_old (by omega), hI.o.2 c (by omega) (by omega), oX.2 c (by omega)]; exact oZ.2 c hc⟩
   clear hη
   have f7 := rdN_all e7 m1
   have f5 := rdN_all (n := 16) e5 (by rw [digC_length, fl])
   simp only [↓eD, eZ, ↓reduceIte, Nat.reduceEqDiff, Nat.reduceAdd, Nat.reduceMul, reduceCtorEq, Nat.reduceLeDiff, Int.reduceLT, Int.reduceLE, Int.reduceToNat, Int.reduceEq, Nat.reduceLT, f7, f5, undef_eq]
   refine appK_at (lnode_app hx16 fl (hG.Old oη)) ?_
   obtain ⟨n1, n2, n3, n4⟩ := dig_len fl'
   have w5 : wrN η ⟨σ.size + 1, 0, none⟩ (digC (nodeF x E)) = some (η.setIfInBounds (σ.size + 1) (.cells (vb + 1) (digC (nodeF x E)) (0, 0))) := dig_put' fl' fl e5
   simp only [↓eD, eZ, ↓reduceIte, Nat.reduceEqDiff, Nat.reduceAdd, Nat.reduceMul, reduceCtorEq, Nat.reduceLeDiff, Int.reduceLT, Int.reduceLE, Int.reduceToNat, Int.reduceEq, Nat.reduceLT, n1, w5, undef_eq]
   refine ⟨vl + 1, .busy, none, (get_set_ne (by omega)).trans el, ?_, hF⟩
   simp [sη]; omega
 ·rintro v τ hI
  obtain ⟨vl, x3⟩ := hI.l
  obtain ⟨vb, x4⟩ := hI.b
  refine ⟨vl, .ready, none, x3, by simp, ?_⟩
  rw [Nat.sub_self, List.drop_zero] at x4
  have fl := fdr D.length
  rw [Nat.sub_self, List.drop_zero] at fl
  generalize D.foldr nodeF leaf = E at x4 fl ⊢
  have hlt : X.size < τ.size := (Array.getElem?_eq_some_iff.1 x3).1
  obtain ⟨ζ, hζ⟩ : ∃ ζ, ζ = τ.setIfInBounds X.size (.loop (vl + 1) .exhausted none R) := ⟨_, rfl⟩
  rw [← hζ]
  have e5 : ζ[σ.size + 1]? = some (.cells vb (digC E) (0, 0)) := by rw [hζ]; exact (get_set_ne (by omega)).trans x4
  have e0 : ζ[σ.size]? = some (.cells 0 [.int .i64 (x : Int), .slice a T.length c] (0, 0)) := by rw [hζ]; exact (get_set_ne (by omega)).trans ((hI.o.2 _ (by omega) (by omega)).trans ((oX.2 _ (by omega)).trans z0))
  have e2 : ζ[σ.size + 2]? = some (.cells 0 [.int .i64 0, .slice none 0 0] (0, 0)) := by rw [hζ]; exact (get_set_ne (by omega)).trans ((hI.o.2 _ (by omega) (by omega)).trans ((oX.2 _ (by omega)).trans z2))
  have oζ : Old σ ζ := by
   rw [hζ]
   exact ⟨by simp; omega, fun c hc => by rw [get_set_ne (by omega), hI.o.2 c (by omega) (by omega), oX.2 c (by omega)]; exact oZ.2 c hc⟩
  have sζ : σ.size + 3 ≤ ζ.size := by rw [hζ, Array.size_setIfInBounds]; omega
  clear hζ
  obtain ⟨n1, n2, n3, n4⟩ := dig_len fl
  have f5 := rdN_all (n := 16) e5 n1
  have t0 : rd1 ζ ⟨σ.size, 0, none⟩ = some (.int .i64 (x : Int)) := rd1_of e0 .refl rfl
  have t1 : rd1 ζ ⟨σ.size, 1, none⟩ = some (.slice a T.length c) := rd1_of e0 .refl rfl
  have wx1 : IntKind.wrap .i64 ((x : Int) + 1) = (x : Int) + 1 := by rw [wrap64' (by omega) (by omega)]
  rw [← ap_nil (σ := ζ)] at f5 t0 t1 ⊢
  simp only [↓eD, eZ, ↓reduceIte, Nat.reduceEqDiff, Nat.reduceAdd, Nat.reduceMul, reduceCtorEq, Nat.reduceLeDiff, Int.reduceLT, Int.reduceLE, Int.reduceToNat, Int.reduceEq, Nat.reduceLT, f5, t0, t1, s2, wx1, n1, n2, n3, n4, rep16, digC_one, undef_eq]
  obtain ⟨Y, hY2⟩ : ∃ Y, Y = ap ζ [.cells 0 (digC E) (0, 0)] := ⟨_, rfl⟩
  rw [← hY2]
  have oY : Old ζ Y := by rw [hY2]; exact .ap
  have sY : Y.size = ζ.size + 1 := by rw [hY2]; simp [ap_size]
  have y1 : Y[ζ.size]? = some (.cells 0 (digC E) (0, 0)) := by rw [hY2]; exact ap_new0
  clear hY2
  refine appK_of (clone_app (L2.Old (oζ.trans oY)) (by rw [List.length_take]; omega)) ?_
  rintro w ξ ⟨oξ, hg⟩
  have e0ξ : ξ[σ.size]? = some (.cells 0 [.int .i64 (x : Int), .slice a T.length c] (0, 0)) := (oξ.2 _ (by omega)).trans ((oY.2 _ (by omega)).trans e0)
  have e5ξ : ξ[σ.size + 1]? = some (.cells vb (digC E) (0, 0)) := (oξ.2 _ (by omega)).trans ((oY.2 _ (by omega)).trans e5)
  have e2ξ : ξ[σ.size + 2]? = some (.cells 0 [.int .i64 0, .slice none 0 0] (0, 0)) := (oξ.2 _ (by omega)).trans ((oY.2 _ (by omega)).trans e2)
  have e6ξ : ξ[ζ.size]? = some (.cells 0 (digC E) (0, 0)) := (oξ.2 _ (by omega)).trans y1
  have t0ξ : rd1 ξ ⟨σ.size, 0, none⟩ = some (.int .i64 (x : Int)) := rd1_of e0ξ .refl rfl
  have f5ξ := rdN_all (n := 16) e5ξ n1
  have xc : xcells ξ 16 (.slice (some ⟨ζ.size, 0, none⟩) 1 1) = some (1, digC E) := by
   show (rdN ξ ⟨ζ.size, 0, none⟩ (1 * 16)).map (1, ·) = _
   rw [rdN_all (n := 1 * 16) e6ξ (by rw [n1])]
   rfl
  obtain ⟨v6, χ, ha, A⟩ := append_grown (bytes := 16) hg (by omega) (by have := oξ.1; omega) xc (by rw [n1]) digC_one (by rw [List.length_take]; omega) (by omega)
  obtain ⟨wa, wc, rfl⟩ := hg.slice
  simp only [↓eD, eZ, ↓reduceIte, Nat.reduceEqDiff, Nat.reduceAdd, Nat.reduceMul, reduceCtorEq, Nat.reduceLeDiff, Int.reduceLT, Int.reduceLE, Int.reduceToNat, Int.reduceEq, Nat.reduceLT, t0ξ, f5ξ, undef_eq]
  refine onV_of ha ?_
  have e0χ : χ[σ.size]? = some (.cells 0 [.int .i64 (x : Int), .slice a T.length c] (0, 0)) := A.low hg (by omega) e0ξ
  have e2χ : χ[σ.size + 2]? = some (.cells 0 [.int .i64 0, .slice none 0 0] (0, 0)) := A.low hg (by omega) e2ξ
  have t0χ : rd1 χ ⟨σ.size, 0, none⟩ = some (.int .i64 (x : Int)) := rd1_of e0χ .refl rfl
  have oχ : Old σ χ := A.Old' hg (by omega) ((oζ.trans oY).trans oξ)
  obtain ⟨xa, xcc, rfl⟩ := A.grown.slice
  obtain ⟨w2, r2⟩ := pk χ ((x : Int) + 1) (.slice xa ((T.take kp).length + 1) xcc) rfl e2χ
  simp only [↓eD, eZ, ↓reduceIte, Nat.reduceEqDiff, Nat.reduceAdd, Nat.reduceMul, reduceCtorEq, Nat.reduceLeDiff, Int.reduceLT, Int.reduceLE, Int.reduceToNat, Int.reduceEq, Nat.reduceLT, t0χ, w2, r2, undef_eq]
  refine ⟨oχ.set (by omega), _, rfl, ?_⟩
  have hg2 : Grown Y (χ.setIfInBounds (σ.size + 2) (.cells 1 [.int .i64 ((x : Int) + 1), .slice xa ((T.take kp).length + 1) xcc] (0, 0))) 16 (.slice xa ((T.take kp).length + 1) xcc) ((T.take kp ++ [E]).map digC).flatten (T.take kp ++ [E]).length := by
   have := A.grown.set (b := σ.size + 2) (k := .cells 1 [.int .i64 ((x : Int) + 1), .slice xa ((T.take kp).length + 1) xcc] (0, 0)) (by omega)
   rw [List.map_append, List.flatten_append, List.length_append]
   simpa using this
  exact ⟨hg2.from (by have h1 := oζ.1; rw [ap_nil]; omega), fun d hd => by
   rcases List.mem_append.1 hd with hd | hd
   ·exact L2.d d hd
   ·rw [List.mem_singleton] at hd; rw [hd]; exact fl⟩
end Go.Proofs.YtjgbbhfihcmphaaDoor
