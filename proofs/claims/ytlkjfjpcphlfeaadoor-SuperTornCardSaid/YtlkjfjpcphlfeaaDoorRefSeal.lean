/- What block's reference seals, as printed. -/
import Derived.Test.YtlkjfjpcphlfeaaDoorBlock
import Derived.Test.YtlkjfjpcphlfeaaDoorQ4
import Derived.Test.YtlkjfjpcphlfeaaDoorQ5
set_option linter.unusedVariables false
set_option linter.unusedSimpArgs false
namespace Go.Proofs.YtlkjfjpcphlfeaaDoor.Base
open Go Go.RowKit Go.Proofs.YtlkjfjpcphlfeaaDoorW.PrintWords Go.Proofs.YtlkjfjpcphlfeaaDoorW.PrintLast Go.Proofs.YtlkjfjpcphlfeaaDoorW.PrintMore
open Go.Proofs.YtlkjfjpcphlfeaaDoor.Q

theorem ref_kind (kd : Int) : holtref4_kind.f kd = some (decide (1 ≤ kd ∧ kd ≤ 3)) := by
  unfold holtref4_kind.f
  by_cases h1 : kd = 1
  · rw [if_pos h1, decide_eq_true (by omega)]
  · rw [if_neg h1]
    by_cases h2 : kd = 2
    · rw [if_pos h2, decide_eq_true (by omega)]
    · rw [if_neg h2]
      congr 1
      by_cases h3 : kd = 3
      · subst h3; decide
      · rw [beq_eq_false_iff_ne.2 h3, decide_eq_false (by omega)]
theorem ref_L8n (n : Nat) (k : Nat) (h1 : n < 18446744073709551616) (hk : 10 ≤ k) : holtref1_L8.f k (n : Int) = some (str (le 8 n)) := by
  have := ref_L8 (n : Int) k (by omega) (by omega) hk
  rwa [Int.toNat_natCast] at this
theorem zeros_str (n : Nat) : strOfNums (List.replicate n 0) = str (List.replicate n 0) := by
  rw [strOf, List.map_replicate]; rfl
theorem ref_Seal_ok (kd : UInt8) (g a : Nat) (l : List UInt8) (h1 : 1 ≤ kd.toNat) (h3 : kd.toNat ≤ 3) (hg : g < 18446744073709551616) (ha : a < 18446744073709551616) (hl : l.length ≤ 480) (k : Nat) (hk : 600 ≤ k) :
    holtref4_Seal.f k (kd.toNat : Nat) g a (str l) = some (str (sealed kd g a l), 0) := by
  unfold holtref4_Seal.f
  rw [ref_kind, show decide (1 ≤ ((kd.toNat : Nat) : Int) ∧ ((kd.toNat : Nat) : Int) ≤ 3) = true from decide_eq_true (by omega)]
  simp only [Option.bind_some, if_true]
  rw [str_size, if_neg (by omega), kind_str, holt_str, if_pos (by rw [str_size]; simp), ref_L8n g k hg (by omega), ref_L8n a k ha (by omega)]
  simp only [Option.bind_some, str_append, str_size]
  rw [if_pos (by simp [holt, le_length]), if_pos (by simp [holt, le_length]), w64 (x := 480 - (l.length : Int)) (by omega) (by omega), if_pos (by omega), if_pos (by omega), show (480 - (l.length : Int)).toNat = 480 - l.length from by omega, zeros_str]
  simp only [Option.bind_some, str_append, str_size]
  rw [if_pos (by simp; omega), show (0 : Int) = ((0 : Nat) : Int) from rfl, ref_L8n 0 k (by decide) (by omega)]
  simp only [Option.bind_some, str_append, str_size]
  rw [if_pos (by simp [holt, le_length]), if_pos (by simp [holt, le_length]; omega)]
  have e : ∀ s, ((((holt ++ [kd, 0, 0, 0]) ++ le 8 g) ++ le 8 a) ++ le 8 s) ++ (l ++ List.replicate (480 - l.length) 0) = body kd g a s (pad l) := fun s => by simp [body, pad]
  rw [e, ref_sum _ (by rw [body_length, pad_length l hl]; omega) k (by rw [body_length, pad_length l hl]; omega)]
  simp only [Option.bind_some]
  rw [ref_L8n _ k (fnv_lt _ _ (by decide)) (by omega)]
  simp only [Option.bind_some, str_append, str_size]
  rw [if_pos (by simp [holt, le_length]), if_pos (by simp [holt, le_length]; omega), e]; rfl
theorem ref_Seal_kind (kd : Int) (g a : Int) (s : ByteArray) (h : kd < 1 ∨ 3 < kd) (k : Nat) : holtref4_Seal.f k kd g a s = some (str [], 400) := by
  unfold holtref4_Seal.f
  rw [ref_kind, show decide (1 ≤ kd ∧ kd ≤ 3) = false from decide_eq_false (by omega)]; rfl
theorem ref_Seal_size (kd : Int) (g a : Int) (s : ByteArray) (h1 : 1 ≤ kd) (h3 : kd ≤ 3) (hs : 480 < s.size) (k : Nat) : holtref4_Seal.f k kd g a s = some (str [], 401) := by
  unfold holtref4_Seal.f
  rw [ref_kind, show decide (1 ≤ kd ∧ kd ≤ 3) = true from decide_eq_true (by omega)]
  simp only [Option.bind_some, if_true]
  rw [if_pos (by omega)]; rfl
end Go.Proofs.YtlkjfjpcphlfeaaDoor.Base
