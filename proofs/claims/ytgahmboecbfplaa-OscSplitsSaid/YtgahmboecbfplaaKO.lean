/- Words for opening arguments: a slice whose elements are structs of one-cell fields. -/
import Derived.Test.YtgahmboecbfplaaK
import Derived.ProofKit
import Derived.OpenShut
import Derived.SizedLaws
import Derived.Deep.Slices
namespace Go.Proofs.Ytgahmboecbfplaa
set_option linter.unusedVariables false
set_option linter.unusedSimpArgs false
open Go.RowKit Go.ChangeShapes Go.WideShapes Go.Deep

theorem spot_none {w : World} {a : Addr} {u : Value} (h : w.cell? a = some u) : a = ⟨a.block, a.off, none⟩ := by
  obtain ⟨b, o, s⟩ := a
  have hs : s = none := World.cell?_spot h
  rw [hs]

section
variable {H : Type} {enc : TypeId × Value → H} {P : Program}
/-- A slice of structs, each field one cell, as it came in. -/
theorem open_structs {W : World} {base : Nat} {t e : TypeId} {fs : Array Field} {k : Nat} {v : Value} {d : DataW H} {p : List MemPlace} {ts : List TypeId} {ds : List (DataW H)}
    (ht : P.underlying t = some (.slice e)) (he : P.underlying e = some (.struct fs)) (hk : P.cellsOf e = k) (hk0 : 0 < k)
    (hone : ∀ j f, fs[j]? = some f → f.offset = j ∧ P.cellsOf f.type = 1 ∧ j < k) (hfs : fs.size = k)
    (hok : Value.okWide P W .any base t v) (h : DataW.Trod enc P W 0 (fun _ => true) true t v d p)
    (hsz : (DataW.weightsEach P ts ds).all (· ≤ reachBytes) = true) {j : Nat} (hj : ts[j]? = some t) (hd : ds[j]? = some d) :
    ∃ A n c, v = .slice A n c ∧ n ≤ c ∧ n * P.bytesOf e ≤ 140737488351232 ∧ (A = none → n = 0) ∧
      (0 < n → ∃ b off, A = some ⟨b, off, none⟩ ∧ ∀ i j f, i < n → fs[j]? = some f → ∃ u, W.cell? ⟨b, off + i * k + j, none⟩ = some u ∧ ∃ m y, DataW.trod enc P W 0 (fun _ => true) true m f.type [u] = some y) := by
  obtain ⟨A, n, c, rfl⟩ := okWide_slice ht hok
  obtain ⟨fuel, hf⟩ := h
  rcases open_slice ht hf with ⟨hcs, hx⟩ | ⟨a, len, cap, m, q, D, Pl, hcs, hb, hl, hm, hmm, hx, hel⟩
  · simp [Value.cells] at hcs
    obtain ⟨rfl, rfl, rfl⟩ := hcs
    exact ⟨none, 0, 0, rfl, by omega, by omega, fun _ => rfl, fun h => by omega⟩
  · simp [Value.cells] at hcs
    obtain ⟨rfl, rfl, rfl⟩ := hcs
    obtain rfl : m = c := by rw [hmm]; simp
    refine ⟨some a, n, m, rfl, hl, ?_, (fun h => by cases h), fun hn => ?_⟩
    · obtain ⟨hx1, _⟩ := Prod.mk.inj hx
      have z := sized_slice hsz hj (by rw [hd, hx1]) ht
      simp only [List.length_map, List.length_range] at z
      have z2 : n * P.bytesOf e ≤ (n + (m - n)) * P.bytesOf e := Nat.mul_le_mul_right _ (by omega)
      exact Nat.le_trans z2 z
    · have cell : ∀ i j f, i < n → fs[j]? = some f → ∃ u, W.cell? (a.add (i * k + j)) = some u ∧ ∃ m y, DataW.trod enc P W 0 (fun _ => true) true m f.type [u] = some y := by
        intro i j f hi hj'
        obtain ⟨cs', h1, h2⟩ := hel i (by omega)
        rw [hk] at h1
        obtain ⟨_, hlen, hcell⟩ := World.cells?_some h1
        obtain ⟨xs, q', _, _, hcl, _, hfl⟩ := DataW.trod_struct he h2
        obtain ⟨ho, hc1, hjk⟩ := hone j f hj'
        have h3 := hfl j f hj'
        rw [ho, hc1] at h3
        have hjl : j < cs'.length := by rw [hlen]; exact hjk
        have e1 : (cs'.drop j).take 1 = [cs'[j]] := by
          rw [List.drop_eq_getElem_cons hjl]; rfl
        rw [e1] at h3
        have h4 := hcell j (by omega)
        refine ⟨cs'[j], ?_, ?_⟩
        · rw [show a.add (i * k + j) = (a.add (i * k)).add j from by
            unfold Addr.add
            by_cases h1 : i * k = 0 <;> by_cases h2 : j = 0 <;> simp [h1, h2, Nat.add_assoc]]
          rw [h4]
          exact List.getElem?_eq_getElem hjl
        · have : j < xs.length := by
            rw [‹xs.length = fs.size›, hfs]; exact hjk
          rw [List.getElem?_eq_getElem this] at h3
          exact ⟨_, _, h3⟩
      have h0 := (Array.getElem?_eq_some_iff (xs := fs) (i := 0) (b := fs[0]'(by omega))).2 ⟨by omega, rfl⟩
      obtain ⟨u, hu, _⟩ := cell 0 0 _ hn h0
      rw [show a.add (0 * k + 0) = a from by simp [Addr.add]] at hu
      have ha := spot_none hu
      refine ⟨a.block, a.off, by rw [← ha], fun i j f hi hj' => ?_⟩
      obtain ⟨u, hu, hy⟩ := cell i j f hi hj'
      refine ⟨u, ?_, hy⟩
      rw [ha] at hu
      unfold Addr.add at hu
      split at hu
      · rename_i h0
        rw [show a.off + i * k + j = a.off by omega]
        exact hu
      · simpa [Nat.add_assoc] using hu
end
end Go.Proofs.Ytgahmboecbfplaa
