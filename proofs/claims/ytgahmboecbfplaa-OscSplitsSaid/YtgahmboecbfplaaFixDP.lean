/- Long division of two words by a small divisor: the plain arithmetic. -/
namespace Go.Proofs.Ytgahmboecbfplaa
set_option linter.unusedVariables false
set_option linter.unusedSimpArgs false

theorem dd_one {hi lo S P Q x Z : Nat} (hP : P * Q = 18446744073709551616) (hQ : 0 < Q) (hx : x = hi * P + lo / Q) (hZ : Z = lo * P % 18446744073709551616) :
    x * 18446744073709551616 + Z = (hi * 18446744073709551616 + lo) * P := by
  have h1 : lo * P / 18446744073709551616 = lo / Q := by
    rw [← hP, Nat.mul_comm P Q, Nat.mul_div_mul_right _ _ (Nat.pos_of_ne_zero (fun h => by rw [h, Nat.zero_mul] at hP; cases hP))]
  have h2 := Nat.div_add_mod (lo * P) 18446744073709551616
  rw [h1, ← hZ] at h2
  rw [hx, Nat.add_mul, Nat.add_mul]
  have h3 : hi * P * 18446744073709551616 = hi * 18446744073709551616 * P := by rw [Nat.mul_assoc, Nat.mul_comm P, ← Nat.mul_assoc]
  rw [h3, ← h2, Nat.mul_comm (lo / Q), Nat.add_assoc]

theorem dd_two {U d P v x Z q1 r1 t q0 r0 : Nat} (hP : 0 < P) (hv : d * P = v * 4294967296) (hU : x * 18446744073709551616 + Z = U * P)
    (hq1 : x = v * q1 + r1) (ht : t = r1 * 4294967296 + Z / 4294967296) (hq0 : t = v * q0 + r0) (hr0 : r0 < v) :
    U / d = q1 * 4294967296 + q0 ∧ (r0 * 4294967296 + Z % 4294967296) / P = U % d := by
  have hz := Nat.div_add_mod Z 4294967296
  have hzl := Nat.mod_lt Z (show 0 < 4294967296 by omega)
  have e : U * P = (q1 * 4294967296 + q0) * (d * P) + (r0 * 4294967296 + Z % 4294967296) := by
    rw [hv, ← hU]
    grind
  have hlt : r0 * 4294967296 + Z % 4294967296 < d * P := by rw [hv]; omega
  have hd : 0 < d * P := by omega
  have h1 : U * P / (d * P) = q1 * 4294967296 + q0 := by
    rw [e, Nat.add_comm, Nat.add_mul_div_right _ _ hd, Nat.div_eq_of_lt hlt, Nat.zero_add]
  have h2 : U * P % (d * P) = r0 * 4294967296 + Z % 4294967296 := by
    rw [e, Nat.add_comm, Nat.add_mul_mod_self_right, Nat.mod_eq_of_lt hlt]
  rw [Nat.mul_div_mul_right _ _ hP] at h1
  rw [Nat.mul_mod_mul_right] at h2
  exact ⟨h1, by rw [← h2, Nat.mul_div_cancel _ hP]⟩

theorem dd_lt {hi lo d P v x Z : Nat} (hlt : hi < d) (hlo : lo < 18446744073709551616) (hv : d * P = v * 4294967296) (hP : 0 < P) (hU : x * 18446744073709551616 + Z = (hi * 18446744073709551616 + lo) * P) : x < v * 4294967296 := by
  have h : (hi * 18446744073709551616 + lo) * P < d * 18446744073709551616 * P := Nat.mul_lt_mul_of_pos_right (by omega) hP
  rw [Nat.mul_assoc, Nat.mul_comm 18446744073709551616 P, ← Nat.mul_assoc, hv] at h
  omega

end Go.Proofs.Ytgahmboecbfplaa
