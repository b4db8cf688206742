/-
  A slice of bytes that came in, as the row reads it: its bytes can be read at its address.
-/
import Derived.Test.YtkhobpghiachoaaWords
import Derived.ProofKit
import Derived.OpenShut
namespace Go.Proofs.Ytkhobpghiachoaa
open Go.RowKit

theorem bytes_of_ints {W : World} {x : Addr} {len cap : Nat} {zs : List Int} (hl : len ≤ cap) (hz : zs.length = cap)
    (hcell : ∀ i, i < zs.length → W.cell? (x.add i) = some (.int .u8 (zs.getD i 0))) (hw : ∀ n ∈ zs, (Lit.int .u8 n).wf = true) :
    ∃ xs : List UInt8, xs.length = len ∧ len ≤ cap ∧ RB W (some x) xs := by
  refine ⟨(zs.take len).map (fun n => UInt8.ofNat n.toNat), by simp; omega, hl, fun hne => ?_⟩
  have h0 : 0 < len := by
    rcases Nat.eq_zero_or_pos len with h | h
    · subst h; simp at hne
    · exact h
  obtain ⟨b, off, spot⟩ := x
  have hc0 := hcell 0 (by omega)
  have hspot : spot = none := by simpa [Addr.add] using World.cell?_spot hc0
  subst hspot
  refine ⟨b, off, rfl, fun j hj => ?_⟩
  have hj2 : j < len := by simp at hj; omega
  have hadd : (⟨b, off, none⟩ : Addr).add j = ⟨b, off + j, none⟩ := by unfold Addr.add; split <;> simp_all
  rw [← hadd, hcell j (by omega)]
  have hjz : j < zs.length := by omega
  have hb := bounds_u8 (hw zs[j] (List.getElem_mem hjz))
  have hg : zs.getD j 0 = zs[j] := by simp [List.getD, hjz]
  rw [hg]
  simp only [List.getElem_map, List.getElem_take, UInt8.toNat_ofNat']
  rw [Nat.mod_eq_of_lt (by omega)]
  congr 2
  omega
end Go.Proofs.Ytkhobpghiachoaa
