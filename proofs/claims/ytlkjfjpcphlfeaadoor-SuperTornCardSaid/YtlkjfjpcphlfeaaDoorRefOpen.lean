/- What block's reference opens, as printed. -/
import Derived.Test.YtlkjfjpcphlfeaaDoorRefSeal
import Derived.Test.YtlkjfjpcphlfeaaDoorQ9
set_option linter.unusedVariables false
set_option linter.unusedSimpArgs false
namespace Go.Proofs.YtlkjfjpcphlfeaaDoor.Base
open Go Go.RowKit Go.Proofs.YtlkjfjpcphlfeaaDoorW.PrintWords Go.Proofs.YtlkjfjpcphlfeaaDoorW.PrintLast Go.Proofs.YtlkjfjpcphlfeaaDoorW.PrintMore
open Go.Proofs.YtlkjfjpcphlfeaaDoor.Q

theorem three (l : List UInt8) (h : l.length = 512) : (l.drop 5).take 3 = [l.getD 5 0, l.getD 6 0, l.getD 7 0] := by
  rw [List.drop_eq_getElem_cons (by omega : 5 < l.length), List.take_succ_cons, List.drop_eq_getElem_cons (by omega : 6 < l.length), List.take_succ_cons, List.drop_eq_getElem_cons (by omega : 7 < l.length), List.take_succ_cons, List.take_zero]
  simp [List.getD, List.getElem?_eq_getElem (by omega : 5 < l.length), List.getElem?_eq_getElem (by omega : 6 < l.length), List.getElem?_eq_getElem (by omega : 7 < l.length)]
theorem byte_zero (c : UInt8) : ((c.toNat : Nat) : Int) = 0 ↔ c = 0 := by
  constructor
  · intro h; exact UInt8.toNat_inj.1 (by simp; omega)
  · rintro rfl; rfl
theorem ref_Open_is (l : List UInt8) (at_ : Nat) (hat : at_ < 18446744073709551616) (k : Nat) (hk : 600 ≤ k) : holtref4_Open.f k (str l) at_ = some (openS l at_) := by
  unfold holtref4_Open.f openS
  rw [str_size]
  by_cases h : l.length = 512
  case neg => rw [if_neg (by omega), if_pos h]; rfl
  rw [if_pos (by omega), if_pos (by decide), if_pos (by omega), if_neg (show ¬ (l.length ≠ 512) from fun x => x h)]
  obtain ⟨k, rfl⟩ : ∃ m, k = m + 1 := ⟨k - 1, by omega⟩
  have bad : holtref4_Open.j0 (k + 1) (str l) at_ true = some (0, 0, str [], 402) := by simp only [holtref4_Open.j0]; rw [if_pos trivial]; rfl
  rw [str_extract', str_toList, List.drop_zero, Nat.sub_zero, show ([72, 79, 76, 84] : List UInt8) = holt from rfl]
  by_cases h4 : l.take 4 = holt
  case neg => rw [if_neg h4, bad, if_pos (fun x => h4 x.1)]
  rw [if_pos h4, if_pos (by omega), show (4 : Int) = ((4 : Nat) : Int) from rfl, bt4 l h 4 (by decide)]
  have hc := (l.getD 4 0).toNat_lt
  rw [w64 (by omega) (by omega), ref_kind]
  by_cases hk1 : 1 ≤ (l.getD 4 0).toNat ∧ (l.getD 4 0).toNat ≤ 3
  case neg =>
    rw [decide_eq_false (by omega)]
    simp only [Option.bind_some]
    rw [if_neg (by decide), bad, if_pos (fun x => hk1 x.2.1)]
  rw [decide_eq_true (by omega)]
  simp only [Option.bind_some]
  rw [if_pos trivial, if_pos (by omega), show (5 : Int) = ((5 : Nat) : Int) from rfl, bt4 l h 5 (by decide), show (6 : Int) = ((6 : Nat) : Int) from rfl, bt4 l h 6 (by decide), show (7 : Int) = ((7 : Nat) : Int) from rfl, bt4 l h 7 (by decide)]
  rw [three l h]
  by_cases z5 : l.getD 5 0 = 0
  case neg => rw [if_neg (fun x => z5 ((byte_zero _).1 x)), bad, if_pos (fun x => z5 (by have := x.2.2; simp only [List.cons.injEq] at this; exact this.1))]
  rw [if_pos ((byte_zero _).2 z5), if_pos (by omega)]
  by_cases z6 : l.getD 6 0 = 0
  case neg => rw [if_neg (fun x => z6 ((byte_zero _).1 x)), bad, if_pos (fun x => z6 (by have := x.2.2; simp only [List.cons.injEq] at this; exact this.2.1))]
  rw [if_pos ((byte_zero _).2 z6), if_pos (by omega)]
  by_cases z7 : l.getD 7 0 = 0
  case neg => rw [show ((((l.getD 7 0).toNat : Nat) : Int) != 0) = true from by rw [bne_iff_ne]; exact fun x => z7 ((byte_zero _).1 x), bad, if_pos (fun x => z7 (by have := x.2.2; simp only [List.cons.injEq] at this; exact this.2.2.1))]
  rw [show ((((l.getD 7 0).toNat : Nat) : Int) != 0) = false from by rw [bne_eq_false_iff_eq]; exact (byte_zero _).2 z7, if_neg (fun x => x ⟨h4, hk1, by rw [z5, z6, z7]⟩)]
  simp only [holtref4_Open.j0]
  rw [if_neg (by decide), if_pos (by decide), if_pos (by rw [str_size]; omega), str_extract', ref_OfLe_ok _ (by rw [take8_length l h _ (by decide)]; decide) (by rw [take8_length l h _ (by decide)]; decide) k (by rw [take8_length l h _ (by decide)]; omega)]
  simp only [Option.bind_some, Nat.reduceSub]
  have h0 := ref_L8n 0 k (by decide) (by omega)
  rw [show ((0 : Nat) : Int) = 0 from rfl] at h0
  rw [if_pos (by decide), if_pos (by rw [str_size]; omega), h0]
  simp only [Option.bind_some, str_extract', str_append, str_size]
  have hd : (l.drop 32).take (l.length - 32) = l.drop 32 := List.take_of_length_le (by simp)
  rw [hd, if_pos (by simp [le_length]; omega), if_pos (by simp [le_length]; omega)]
  have e : (l.drop 0).take (24 - 0) ++ le 8 0 ++ l.drop 32 = blanked l := by
    unfold blanked; rw [show le 8 0 = List.replicate 8 0 from by decide]; simp
  rw [e, ref_sum _ (by simp [blanked]; omega) k (by simp [blanked]; omega)]
  simp only [Option.bind_some]
  by_cases hs : ofLe ((l.drop 24).take 8) = fnv basis (blanked l)
  case neg => rw [if_neg (by omega), if_pos hs]; rfl
  rw [if_pos (by omega), if_neg (show ¬ (ofLe ((l.drop 24).take 8) ≠ fnv basis (blanked l)) from fun x => x hs), if_pos (by decide), if_pos (by omega)]
  rw [ref_OfLe_ok ((l.drop 8).take (16 - 8)) (by rw [take8_length l h _ (by decide)]; decide) (by rw [take8_length l h _ (by decide)]; decide) k (by rw [take8_length l h _ (by decide)]; omega), ref_OfLe_ok ((l.drop 16).take (24 - 16)) (by rw [take8_length l h _ (by decide)]; decide) (by rw [take8_length l h _ (by decide)]; decide) k (by rw [take8_length l h _ (by decide)]; omega)]
  simp only [Option.bind_some, Nat.reduceSub]
  rw [if_pos (by decide)]
  by_cases ha : ofLe ((l.drop 16).take 8) = at_
  case neg => rw [if_neg (by omega), if_pos ha]; rfl
  rw [if_pos (by omega), if_pos (show (4 : Int) < (l.length : Int) by omega), if_neg (show ¬ (ofLe ((l.drop 16).take 8) ≠ at_) from fun x => x ha)]
  rw [show (4 : Int) = ((4 : Nat) : Int) from rfl, bt4 l h 4 (by decide), w64 (by omega) (by omega)]
end Go.Proofs.YtlkjfjpcphlfeaaDoor.Base
