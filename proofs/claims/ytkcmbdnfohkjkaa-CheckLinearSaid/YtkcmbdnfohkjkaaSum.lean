/-
  Sizes and check values: what Size and Sum of the program and of the reference return.
-/
import Derived.Test.YtkcmbdnfohkjkaaRefW
namespace Go.Proofs.Ytkcmbdnfohkjkaa
open Go.RowKit Crc

def sizeS (kind : Int) : Int := if kind = 0 then 1 else if kind = 1 then 2 else 0
def sumS (kind : Int) (xs : List UInt8) : List UInt8 :=
  if kind = 0 then [lrc xs] else if kind = 1 then [UInt8.ofNat (crc xs % 256), UInt8.ofNat (crc xs / 256)] else []
def sumE (kind : Int) : Int := if kind = 0 then 0 else if kind = 1 then 0 else 1
theorem kinds (kind : Int) : kind = 0 ∨ kind = 1 ∨ ((kind == 0) = false ∧ (kind == 1) = false) := by
  by_cases h0 : kind = 0
  · exact .inl h0
  · by_cases h1 : kind = 1
    · exact .inr (.inl h1)
    · exact .inr (.inr ⟨beq_eq_false_iff_ne.2 h0, beq_eq_false_iff_ne.2 h1⟩)
theorem sizeS_else {kind : Int} (h0 : (kind == 0) = false) (h1 : (kind == 1) = false) : sizeS kind = 0 := by
  unfold sizeS; rw [if_neg (beq_eq_false_iff_ne.1 h0), if_neg (beq_eq_false_iff_ne.1 h1)]
theorem sumS_else {kind : Int} (h0 : (kind == 0) = false) (h1 : (kind == 1) = false) (xs : List UInt8) : sumS kind xs = [] := by
  unfold sumS; rw [if_neg (beq_eq_false_iff_ne.1 h0), if_neg (beq_eq_false_iff_ne.1 h1)]
theorem sumE_else {kind : Int} (h0 : (kind == 0) = false) (h1 : (kind == 1) = false) : sumE kind = 1 := by
  unfold sumE; rw [if_neg (beq_eq_false_iff_ne.1 h0), if_neg (beq_eq_false_iff_ne.1 h1)]

theorem sumS_le (kind : Int) (xs : List UInt8) : (sumS kind xs).length ≤ 2 := by
  unfold sumS; split
  · simp
  · split <;> simp

theorem size_any (kind : Int) (w : World) :
    Calls Try.prog 13 #[.int .i64 kind] w fun e w' => e = .returned (.int .i64 (sizeS kind)) ∧ w = w' := by
  rcases kinds kind with rfl | rfl | ⟨h0, h1⟩
  · go_enter Try.func13, Try.ntmps13
    go_wp2
    go_ret
    exact ⟨rfl, rfl⟩
  · go_enter Try.func13, Try.ntmps13
    go_wp2
    go_ret
    exact ⟨rfl, rfl⟩
  · have HE := Lib.hid (sizeS_else h0 h1)
    go_enter Try.func13, Try.ntmps13
    go_wp2
    go_ret
    exact ⟨ret_int HE.out.symm, rfl⟩

theorem rsize_any (kind : Int) (w : World) :
    Calls Try.prog 14 #[.int .i64 kind] w fun e w' => e = .returned (.int .i64 (sizeS kind)) ∧ w = w' := by
  rcases kinds kind with rfl | rfl | ⟨h0, h1⟩
  · go_enter Try.func14, Try.ntmps14
    go_wp2
    go_ret
    exact ⟨rfl, rfl⟩
  · go_enter Try.func14, Try.ntmps14
    go_wp2
    go_ret
    exact ⟨rfl, rfl⟩
  · have HE := Lib.hid (sizeS_else h0 h1)
    go_enter Try.func14, Try.ntmps14
    go_wp2
    go_ret
    exact ⟨ret_int HE.out.symm, rfl⟩

theorem crc_cells (n : Nat) (h : n < 65536) : #[Value.int .u8 ((n : Int) % 256), Value.int .u8 ((n : Int) / 256)] = (bv [UInt8.ofNat (n % 256), UInt8.ofNat (n / 256)]).toArray := by
  simp only [bv, List.map_cons, List.map_nil, UInt8.toNat_ofNat']
  rw [Nat.mod_eq_of_lt (show n % 256 < 2 ^ 8 from by omega), Nat.mod_eq_of_lt (show n / 256 < 2 ^ 8 from by omega)]
  simp

theorem sum_any (kind : Int) (A : Option Addr) (c : Nat) (xs : List UInt8) (w : World) (hs : xs.length ≤ 140737488351232) (hr : RB w A xs) :
    Calls Try.prog 10 #[.int .i64 kind, .slice A xs.length c] w fun e w' => GivesE w w' e (sumS kind xs) (sumE kind) := by
  rcases kinds kind with rfl | rfl | ⟨h0, h1⟩
  · go_enter Try.func10, Try.ntmps10
    go_wp2_with fail
    refine (lrc_any A c xs w hs hr).mono ?_
    rintro e w1 ⟨rfl, rfl⟩
    go_wp2
    go_ret2
    exact gives_cells (xs := [lrc xs]) (Below.refl _ _) rfl rfl
  · go_enter Try.func10, Try.ntmps10
    go_wp2_with fail
    refine (crc_any A c xs w hs hr).mono ?_
    rintro e w1 ⟨rfl, hb⟩
    have hcl : (crc xs : Int) < 65536 := by have := crc_lt xs; omega
    go_wp2
    go_ret2
    exact gives_cells (xs := [UInt8.ofNat (crc xs % 256), UInt8.ofNat (crc xs / 256)]) hb (crc_cells _ (crc_lt xs)) rfl
  · have HS := Lib.hid (sumS_else h0 h1 xs)
    have HE := Lib.hid (sumE_else h0 h1)
    go_enter Try.func10, Try.ntmps10
    go_wp2
    go_ret2
    exact gives_none (Below.refl _ _) HS.out HE.out

theorem rsum_any (kind : Int) (A : Option Addr) (c : Nat) (xs : List UInt8) (w : World) (hs : xs.length ≤ 140737488351232) (hr : RB w A xs) :
    Calls Try.prog 12 #[.int .i64 kind, .slice A xs.length c] w fun e w' => GivesE w w' e (sumS kind xs) (sumE kind) := by
  rcases kinds kind with rfl | rfl | ⟨h0, h1⟩
  · go_enter Try.func12, Try.ntmps12
    go_wp2_with fail
    refine (rsize_any 0 w).mono ?_
    rintro e w1 ⟨rfl, rfl⟩
    have hk : sizeS 0 = 1 := rfl
    rw [hk]
    go_wp2_with fail
    refine (rlrc_any A c xs w hs hr).mono ?_
    rintro e w1 ⟨rfl, rfl⟩
    go_wp2
    go_ret2
    exact gives_cells (xs := [lrc xs]) (Below.refl _ _) rfl rfl
  · go_enter Try.func12, Try.ntmps12
    go_wp2_with fail
    refine (rsize_any 1 w).mono ?_
    rintro e w1 ⟨rfl, rfl⟩
    have hk : sizeS 1 = 2 := rfl
    rw [hk]
    go_wp2_with fail
    refine (rcrc_any A c xs w hs hr).mono ?_
    rintro e w1 ⟨rfl, rfl⟩
    have hcl : (crc xs : Int) < 65536 := by have := crc_lt xs; omega
    go_wp2
    go_ret2
    exact gives_cells (xs := [UInt8.ofNat (crc xs % 256), UInt8.ofNat (crc xs / 256)]) (Below.refl _ _) (crc_cells _ (crc_lt xs)) rfl
  · have HS := Lib.hid (sumS_else h0 h1 xs)
    have HE := Lib.hid (sumE_else h0 h1)
    have hk := sizeS_else h0 h1
    go_enter Try.func12, Try.ntmps12
    go_wp2_with fail
    refine (rsize_any kind w).mono ?_
    rintro e w1 ⟨rfl, rfl⟩
    rw [hk]
    go_wp2
    go_ret2
    exact gives_none (Below.refl _ _) HS.out HE.out
end Go.Proofs.Ytkcmbdnfohkjkaa
