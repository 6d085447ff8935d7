-- Written by wip/ext.py, a program of this session, by way of the kit's printer: nothing in it is trusted: Lean checks it.
import Derived.Test.YtlkjfjpcphlfeaaDoorQ0
import Derived.Test.YtlkjfjpcphlfeaaDoorQ4
namespace Go.Proofs.YtlkjfjpcphlfeaaDoor.Q
open Go.RowKit Go.Proofs.YtlkjfjpcphlfeaaDoorW.PrintWords Go.Proofs.YtlkjfjpcphlfeaaDoorW.PrintLast Go.Proofs.YtlkjfjpcphlfeaaDoorW.PrintMore
attribute [local go_sem] max2_int min2_int max_two min_two max_three min_three max_four min_four   -- for this text's walks alone
set_option linter.unusedVariables false
set_option linter.unusedSimpArgs false

/-! ### holtref4_Seal: function 20 -/
def holtref4_Seal.f (k : Nat) (a0 : Int) (a1 : Int) (a2 : Int) (a3 : ByteArray) : Option (ByteArray × Int) := (holtref4_kind.f a0).bind fun t141 => (if t141 = true then (if (a3.size : Int) > 480 then (some ((⟨#[]⟩ : ByteArray), 401)) else ((some (([(a0) % 256, 0, 0, 0] : List Int) : List Int)).bind fun y142 => (if 4 + (strOfNums y142).size ≤ 9223372036854775807 then ((holtref1_L8.f k a1).bind fun t145 => (if ((⟨#[72, 79, 76, 84]⟩ : ByteArray) ++ (strOfNums y142)).size + t145.size ≤ 9223372036854775807 then ((holtref1_L8.f k a2).bind fun t146 => (if (((⟨#[72, 79, 76, 84]⟩ : ByteArray) ++ (strOfNums y142)) ++ t145).size + t146.size ≤ 9223372036854775807 then (if 0 ≤ (wrap64 (480 - (a3.size : Int))) then (if (wrap64 (480 - (a3.size : Int)) : Int).toNat ≤ 281474976710656 then ((some (List.replicate (wrap64 (480 - (a3.size : Int)) : Int).toNat 0 : List Int)).bind fun y147 => (if a3.size + (strOfNums y147).size ≤ 9223372036854775807 then ((holtref1_L8.f k 0).bind fun t150 => (if ((((⟨#[72, 79, 76, 84]⟩ : ByteArray) ++ (strOfNums y142)) ++ t145) ++ t146).size + t150.size ≤ 9223372036854775807 then (if (((((⟨#[72, 79, 76, 84]⟩ : ByteArray) ++ (strOfNums y142)) ++ t145) ++ t146) ++ t150).size + (a3 ++ (strOfNums y147)).size ≤ 9223372036854775807 then ((holtref2_Of.f k ((((((⟨#[72, 79, 76, 84]⟩ : ByteArray) ++ (strOfNums y142)) ++ t145) ++ t146) ++ t150) ++ (a3 ++ (strOfNums y147)))).bind fun t151 => ((holtref1_L8.f k t151).bind fun t152 => (if ((((⟨#[72, 79, 76, 84]⟩ : ByteArray) ++ (strOfNums y142)) ++ t145) ++ t146).size + t152.size ≤ 9223372036854775807 then (if (((((⟨#[72, 79, 76, 84]⟩ : ByteArray) ++ (strOfNums y142)) ++ t145) ++ t146) ++ t152).size + (a3 ++ (strOfNums y147)).size ≤ 9223372036854775807 then (some ((((((⟨#[72, 79, 76, 84]⟩ : ByteArray) ++ (strOfNums y142)) ++ t145) ++ t146) ++ t152) ++ (a3 ++ (strOfNums y147)), 0)) else (none)) else (none)))) else (none)) else (none))) else (none))) else (none)) else (none)) else (none))) else (none))) else (none)))) else (some ((⟨#[]⟩ : ByteArray), 400)))
theorem holtref4_Seal.mono : ∀ a0 a1 a2 a3 k, LeO (holtref4_Seal.f k a0 a1 a2 a3) (holtref4_Seal.f (k + 1) a0 a1 a2 a3) := by
  intro a0 a1 a2 a3 k
  unfold holtref4_Seal.f
  repeat' first
      | (with_reducible exact holtref1_L8.mono _ _)
      | (with_reducible exact holtref2_Of.mono _ _)
      | (with_reducible exact LeO.refl _)
      | (with_reducible exact LeO.none _)
      | (with_reducible refine LeO.ite ?_ ?_)
      | (with_reducible refine LeO.bind ?_ (fun _ => ?_))
      | exact holtref1_L8.mono _ _
      | exact holtref2_Of.mono _ _
      | exact LeO.none _
      | refine LeO.ite ?_ ?_
      | refine LeO.bind ?_ (fun _ => ?_)
def holtref4_Seal.T5 : Bool × List (List Nat × List Nat) := (true, [([], []), ([0], [0]), ([1], [1]), ([2], [2]), ([3], [3]), ([], []), ([5], [5]), ([4, 6], [4, 6]), ([], []), ([8, 6], [8]), ([7, 9], [7, 9]), ([10, 9, 0, 1, 2, 3, 4, 5, 6, 7, 8, 9, 10], [10])])
def holtref4_Seal.B5 : List Nat := [0, 1, 3, 7, 15, 0, 32, 127, 0, 352, 1023, 2047]
theorem holtref4_Seal.tab5 : rtab .any (opsOf Tryd.f20 5) = holtref4_Seal.T5 := by kernel_rfl
theorem holtref4_Seal.bits5 : waitsOk holtref4_Seal.T5.2 holtref4_Seal.B5 = true := by kernel_rfl
set_option maxHeartbeats 8000000 in
set_option maxRecDepth 100000 in
theorem holtref4_Seal.calls (k : Nat) (a0 : Int) (a1 : Int) (a2 : Int) (a3 : ByteArray) (r1 : ByteArray) (r2 : Int) (w : World) (h : holtref4_Seal.f k a0 a1 a2 a3 = some (r1, r2)) :
    Calls Tryd.prog 20 #[.int .i64 a0, .int .u64 a1, .int .u64 a2, .string a3] w fun e w' => e = .returned (.tuple #[.string r1, .int .i64 r2]) ∧ Below w.heap.size w w' := by
  have HB := Aside0.mk (Below.refl w.heap.size w)
  have H : ((holtref4_kind.f a0).bind fun t141 => (if t141 = true then (if (a3.size : Int) > 480 then (some ((⟨#[]⟩ : ByteArray), 401)) else ((some (([(a0) % 256, 0, 0, 0] : List Int) : List Int)).bind fun y142 => (if 4 + (strOfNums y142).size ≤ 9223372036854775807 then ((holtref1_L8.f k a1).bind fun t145 => (if ((⟨#[72, 79, 76, 84]⟩ : ByteArray) ++ (strOfNums y142)).size + t145.size ≤ 9223372036854775807 then ((holtref1_L8.f k a2).bind fun t146 => (if (((⟨#[72, 79, 76, 84]⟩ : ByteArray) ++ (strOfNums y142)) ++ t145).size + t146.size ≤ 9223372036854775807 then (if 0 ≤ (wrap64 (480 - (a3.size : Int))) then (if (wrap64 (480 - (a3.size : Int)) : Int).toNat ≤ 281474976710656 then ((some (List.replicate (wrap64 (480 - (a3.size : Int)) : Int).toNat 0 : List Int)).bind fun y147 => (if a3.size + (strOfNums y147).size ≤ 9223372036854775807 then ((holtref1_L8.f k 0).bind fun t150 => (if ((((⟨#[72, 79, 76, 84]⟩ : ByteArray) ++ (strOfNums y142)) ++ t145) ++ t146).size + t150.size ≤ 9223372036854775807 then (if (((((⟨#[72, 79, 76, 84]⟩ : ByteArray) ++ (strOfNums y142)) ++ t145) ++ t146) ++ t150).size + (a3 ++ (strOfNums y147)).size ≤ 9223372036854775807 then ((holtref2_Of.f k ((((((⟨#[72, 79, 76, 84]⟩ : ByteArray) ++ (strOfNums y142)) ++ t145) ++ t146) ++ t150) ++ (a3 ++ (strOfNums y147)))).bind fun t151 => ((holtref1_L8.f k t151).bind fun t152 => (if ((((⟨#[72, 79, 76, 84]⟩ : ByteArray) ++ (strOfNums y142)) ++ t145) ++ t146).size + t152.size ≤ 9223372036854775807 then (if (((((⟨#[72, 79, 76, 84]⟩ : ByteArray) ++ (strOfNums y142)) ++ t145) ++ t146) ++ t152).size + (a3 ++ (strOfNums y147)).size ≤ 9223372036854775807 then (some ((((((⟨#[72, 79, 76, 84]⟩ : ByteArray) ++ (strOfNums y142)) ++ t145) ++ t146) ++ t152) ++ (a3 ++ (strOfNums y147)), 0)) else (none)) else (none)))) else (none)) else (none))) else (none))) else (none)) else (none)) else (none))) else (none))) else (none)))) else (some ((⟨#[]⟩ : ByteArray), 400)))) = some (r1, r2) := h
  clear h
  replace H := Option.bind_eq_some_iff.mp H
  obtain ⟨t141, A50, H⟩ := H
  replace H : (if t141 = true then (if (a3.size : Int) > 480 then (some ((⟨#[]⟩ : ByteArray), 401)) else ((some (([(a0) % 256, 0, 0, 0] : List Int) : List Int)).bind fun y142 => (if 4 + (strOfNums y142).size ≤ 9223372036854775807 then ((holtref1_L8.f k a1).bind fun t145 => (if ((⟨#[72, 79, 76, 84]⟩ : ByteArray) ++ (strOfNums y142)).size + t145.size ≤ 9223372036854775807 then ((holtref1_L8.f k a2).bind fun t146 => (if (((⟨#[72, 79, 76, 84]⟩ : ByteArray) ++ (strOfNums y142)) ++ t145).size + t146.size ≤ 9223372036854775807 then (if 0 ≤ (wrap64 (480 - (a3.size : Int))) then (if (wrap64 (480 - (a3.size : Int)) : Int).toNat ≤ 281474976710656 then ((some (List.replicate (wrap64 (480 - (a3.size : Int)) : Int).toNat 0 : List Int)).bind fun y147 => (if a3.size + (strOfNums y147).size ≤ 9223372036854775807 then ((holtref1_L8.f k 0).bind fun t150 => (if ((((⟨#[72, 79, 76, 84]⟩ : ByteArray) ++ (strOfNums y142)) ++ t145) ++ t146).size + t150.size ≤ 9223372036854775807 then (if (((((⟨#[72, 79, 76, 84]⟩ : ByteArray) ++ (strOfNums y142)) ++ t145) ++ t146) ++ t150).size + (a3 ++ (strOfNums y147)).size ≤ 9223372036854775807 then ((holtref2_Of.f k ((((((⟨#[72, 79, 76, 84]⟩ : ByteArray) ++ (strOfNums y142)) ++ t145) ++ t146) ++ t150) ++ (a3 ++ (strOfNums y147)))).bind fun t151 => ((holtref1_L8.f k t151).bind fun t152 => (if ((((⟨#[72, 79, 76, 84]⟩ : ByteArray) ++ (strOfNums y142)) ++ t145) ++ t146).size + t152.size ≤ 9223372036854775807 then (if (((((⟨#[72, 79, 76, 84]⟩ : ByteArray) ++ (strOfNums y142)) ++ t145) ++ t146) ++ t152).size + (a3 ++ (strOfNums y147)).size ≤ 9223372036854775807 then (some ((((((⟨#[72, 79, 76, 84]⟩ : ByteArray) ++ (strOfNums y142)) ++ t145) ++ t146) ++ t152) ++ (a3 ++ (strOfNums y147)), 0)) else (none)) else (none)))) else (none)) else (none))) else (none))) else (none)) else (none)) else (none))) else (none))) else (none)))) else (some ((⟨#[]⟩ : ByteArray), 400))) = some (r1, r2) := H
  have A5 := Aside0.mk A50
  clear A50
  by_cases c6 : t141 = true
  · subst c6
    have H1 : (if (a3.size : Int) > 480 then (some ((⟨#[]⟩ : ByteArray), 401)) else ((some (([(a0) % 256, 0, 0, 0] : List Int) : List Int)).bind fun y142 => (if 4 + (strOfNums y142).size ≤ 9223372036854775807 then ((holtref1_L8.f k a1).bind fun t145 => (if ((⟨#[72, 79, 76, 84]⟩ : ByteArray) ++ (strOfNums y142)).size + t145.size ≤ 9223372036854775807 then ((holtref1_L8.f k a2).bind fun t146 => (if (((⟨#[72, 79, 76, 84]⟩ : ByteArray) ++ (strOfNums y142)) ++ t145).size + t146.size ≤ 9223372036854775807 then (if 0 ≤ (wrap64 (480 - (a3.size : Int))) then (if (wrap64 (480 - (a3.size : Int)) : Int).toNat ≤ 281474976710656 then ((some (List.replicate (wrap64 (480 - (a3.size : Int)) : Int).toNat 0 : List Int)).bind fun y147 => (if a3.size + (strOfNums y147).size ≤ 9223372036854775807 then ((holtref1_L8.f k 0).bind fun t150 => (if ((((⟨#[72, 79, 76, 84]⟩ : ByteArray) ++ (strOfNums y142)) ++ t145) ++ t146).size + t150.size ≤ 9223372036854775807 then (if (((((⟨#[72, 79, 76, 84]⟩ : ByteArray) ++ (strOfNums y142)) ++ t145) ++ t146) ++ t150).size + (a3 ++ (strOfNums y147)).size ≤ 9223372036854775807 then ((holtref2_Of.f k ((((((⟨#[72, 79, 76, 84]⟩ : ByteArray) ++ (strOfNums y142)) ++ t145) ++ t146) ++ t150) ++ (a3 ++ (strOfNums y147)))).bind fun t151 => ((holtref1_L8.f k t151).bind fun t152 => (if ((((⟨#[72, 79, 76, 84]⟩ : ByteArray) ++ (strOfNums y142)) ++ t145) ++ t146).size + t152.size ≤ 9223372036854775807 then (if (((((⟨#[72, 79, 76, 84]⟩ : ByteArray) ++ (strOfNums y142)) ++ t145) ++ t146) ++ t152).size + (a3 ++ (strOfNums y147)).size ≤ 9223372036854775807 then (some ((((((⟨#[72, 79, 76, 84]⟩ : ByteArray) ++ (strOfNums y142)) ++ t145) ++ t146) ++ t152) ++ (a3 ++ (strOfNums y147)), 0)) else (none)) else (none)))) else (none)) else (none))) else (none))) else (none)) else (none)) else (none))) else (none))) else (none)))) = some (r1, r2) := by rw [if_pos rfl] at H; exact H
    clear H
    have H := H1
    clear H1
    by_cases c7 : (a3.size : Int) > 480
    · rw [if_pos c7] at H
      have c7b0 : decide (480 < (a3.size : Int)) = true := decide_eq_true c7
      have c7b1 : decide (480 < a3.size) = true := decide_eq_true (by omega)
      clear c7
      simp only [Option.some.injEq, Prod.mk.injEq] at H
      obtain ⟨rfl, rfl⟩ := H
      go_enter Tryd.func20, Tryd.ntmps20
      go_wp2_with (first | ((with_reducible refine gate_callee (f := 26) rfl ?_); refine goesL_ (some 13) rfl rfl Tryd.func26 (by kernel_rfl) rfl #[.int .i64 a0] rfl (by (try simp only [List.map_toArray, List.map_cons, List.map_nil]); first | done | rfl | (simp only [List.length_drop, List.length_take]; rfl) | ((try simp only [decide_eq_false_iff_not, decide_eq_true_eq] at *); refine congrArg List.toArray ?_; (repeat' (first | with_reducible rfl | refine List.cons_eq_cons.2 ⟨?_, ?_⟩)); all_goals (first | rfl | (refine congrArg (Value.int _) ?_; unfold Go.RowKit.wrap64; omega)))) ?_; (with_reducible refine (holtref4_kind.calls a0 true _ A5.out).mono ?_); rintro e w' ⟨rfl, ⟨nd, rfl⟩⟩; refine ⟨_, rfl, ?_⟩))
      go_ret2
      exact ⟨by first | rfl | (simp [errW_none, errW_some] <;> rfl) | (simp [*, errW_none, errW_some] <;> rfl), by repeat (first | (with_reducible first | exact HB.out | apply below_alloc | apply pw_below_drewN | apply below_drew1) | exact HB.out)⟩
    · rw [if_neg c7] at H
      have c7b0 : decide (480 < (a3.size : Int)) = false := decide_eq_false c7
      have c7b1 : decide (480 < a3.size) = false := decide_eq_false (by omega)
      clear c7
      obtain ⟨y142, hy142⟩ : ∃ y_ : List Int, y_ = (([(a0) % 256, 0, 0, 0] : List Int)) := ⟨_, rfl⟩
      replace H : (if 4 + (strOfNums y142).size ≤ 9223372036854775807 then ((holtref1_L8.f k a1).bind fun t145 => (if ((⟨#[72, 79, 76, 84]⟩ : ByteArray) ++ (strOfNums y142)).size + t145.size ≤ 9223372036854775807 then ((holtref1_L8.f k a2).bind fun t146 => (if (((⟨#[72, 79, 76, 84]⟩ : ByteArray) ++ (strOfNums y142)) ++ t145).size + t146.size ≤ 9223372036854775807 then (if 0 ≤ (wrap64 (480 - (a3.size : Int))) then (if (wrap64 (480 - (a3.size : Int)) : Int).toNat ≤ 281474976710656 then ((some (List.replicate (wrap64 (480 - (a3.size : Int)) : Int).toNat 0 : List Int)).bind fun y147 => (if a3.size + (strOfNums y147).size ≤ 9223372036854775807 then ((holtref1_L8.f k 0).bind fun t150 => (if ((((⟨#[72, 79, 76, 84]⟩ : ByteArray) ++ (strOfNums y142)) ++ t145) ++ t146).size + t150.size ≤ 9223372036854775807 then (if (((((⟨#[72, 79, 76, 84]⟩ : ByteArray) ++ (strOfNums y142)) ++ t145) ++ t146) ++ t150).size + (a3 ++ (strOfNums y147)).size ≤ 9223372036854775807 then ((holtref2_Of.f k ((((((⟨#[72, 79, 76, 84]⟩ : ByteArray) ++ (strOfNums y142)) ++ t145) ++ t146) ++ t150) ++ (a3 ++ (strOfNums y147)))).bind fun t151 => ((holtref1_L8.f k t151).bind fun t152 => (if ((((⟨#[72, 79, 76, 84]⟩ : ByteArray) ++ (strOfNums y142)) ++ t145) ++ t146).size + t152.size ≤ 9223372036854775807 then (if (((((⟨#[72, 79, 76, 84]⟩ : ByteArray) ++ (strOfNums y142)) ++ t145) ++ t146) ++ t152).size + (a3 ++ (strOfNums y147)).size ≤ 9223372036854775807 then (some ((((((⟨#[72, 79, 76, 84]⟩ : ByteArray) ++ (strOfNums y142)) ++ t145) ++ t146) ++ t152) ++ (a3 ++ (strOfNums y147)), 0)) else (none)) else (none)))) else (none)) else (none))) else (none))) else (none)) else (none)) else (none))) else (none))) else (none)) = some (r1, r2) := by first | (rw [hy142]; with_reducible exact H) | (have H2_ := (Option.bind_some _ _).symm.trans H; rw [hy142]; with_reducible exact H2_) | (have H2_ := (Option.bind_some _ _).symm.trans H; with_reducible exact H2_) | with_reducible exact H | (rw [hy142]; exact H) | exact H
      have Ny142 := Aside0.mk hy142
      clear hy142
      by_cases c8 : 4 + (strOfNums y142).size ≤ 9223372036854775807
      · rw [if_pos c8] at H
        have c8b0 := eq_true c8
        have c8b1 : decide (4 + (strOfNums y142).size ≤ 9223372036854775807) = true := decide_eq_true c8
        try have c8b2 : (9223372036854775807 < 4 + (strOfNums y142).size) = False := eq_false (Nat.not_lt.2 c8)
        replace H := Option.bind_eq_some_iff.mp H
        obtain ⟨t145, A90, H⟩ := H
        replace H : (if ((⟨#[72, 79, 76, 84]⟩ : ByteArray) ++ (strOfNums y142)).size + t145.size ≤ 9223372036854775807 then ((holtref1_L8.f k a2).bind fun t146 => (if (((⟨#[72, 79, 76, 84]⟩ : ByteArray) ++ (strOfNums y142)) ++ t145).size + t146.size ≤ 9223372036854775807 then (if 0 ≤ (wrap64 (480 - (a3.size : Int))) then (if (wrap64 (480 - (a3.size : Int)) : Int).toNat ≤ 281474976710656 then ((some (List.replicate (wrap64 (480 - (a3.size : Int)) : Int).toNat 0 : List Int)).bind fun y147 => (if a3.size + (strOfNums y147).size ≤ 9223372036854775807 then ((holtref1_L8.f k 0).bind fun t150 => (if ((((⟨#[72, 79, 76, 84]⟩ : ByteArray) ++ (strOfNums y142)) ++ t145) ++ t146).size + t150.size ≤ 9223372036854775807 then (if (((((⟨#[72, 79, 76, 84]⟩ : ByteArray) ++ (strOfNums y142)) ++ t145) ++ t146) ++ t150).size + (a3 ++ (strOfNums y147)).size ≤ 9223372036854775807 then ((holtref2_Of.f k ((((((⟨#[72, 79, 76, 84]⟩ : ByteArray) ++ (strOfNums y142)) ++ t145) ++ t146) ++ t150) ++ (a3 ++ (strOfNums y147)))).bind fun t151 => ((holtref1_L8.f k t151).bind fun t152 => (if ((((⟨#[72, 79, 76, 84]⟩ : ByteArray) ++ (strOfNums y142)) ++ t145) ++ t146).size + t152.size ≤ 9223372036854775807 then (if (((((⟨#[72, 79, 76, 84]⟩ : ByteArray) ++ (strOfNums y142)) ++ t145) ++ t146) ++ t152).size + (a3 ++ (strOfNums y147)).size ≤ 9223372036854775807 then (some ((((((⟨#[72, 79, 76, 84]⟩ : ByteArray) ++ (strOfNums y142)) ++ t145) ++ t146) ++ t152) ++ (a3 ++ (strOfNums y147)), 0)) else (none)) else (none)))) else (none)) else (none))) else (none))) else (none)) else (none)) else (none))) else (none)) = some (r1, r2) := H
        have A9 := Aside0.mk A90
        clear A90
        by_cases c10 : ((⟨#[72, 79, 76, 84]⟩ : ByteArray) ++ (strOfNums y142)).size + t145.size ≤ 9223372036854775807
        · rw [if_pos c10] at H
          have c10b0 := eq_true c10
          have c10b1 : decide (((⟨#[72, 79, 76, 84]⟩ : ByteArray) ++ (strOfNums y142)).size + t145.size ≤ 9223372036854775807) = true := decide_eq_true c10
          try have c10b2 : (9223372036854775807 < ((⟨#[72, 79, 76, 84]⟩ : ByteArray) ++ (strOfNums y142)).size + t145.size) = False := eq_false (Nat.not_lt.2 c10)
          have c10b3 : (9223372036854775807 < ((⟨#[72, 79, 76, 84]⟩ : ByteArray) ++ (strOfNums y142)).size + t145.size) = False := eq_false (Nat.not_lt.2 c10)
          (try simp only [ByteArray.size_append, ByteArray.size_extract, Nat.sub_zero, Nat.min_self, show (⟨#[72, 79, 76, 84]⟩ : ByteArray).size = 4 from rfl] at c10b3)
          replace H := Option.bind_eq_some_iff.mp H
          obtain ⟨t146, A110, H⟩ := H
          replace H : (if (((⟨#[72, 79, 76, 84]⟩ : ByteArray) ++ (strOfNums y142)) ++ t145).size + t146.size ≤ 9223372036854775807 then (if 0 ≤ (wrap64 (480 - (a3.size : Int))) then (if (wrap64 (480 - (a3.size : Int)) : Int).toNat ≤ 281474976710656 then ((some (List.replicate (wrap64 (480 - (a3.size : Int)) : Int).toNat 0 : List Int)).bind fun y147 => (if a3.size + (strOfNums y147).size ≤ 9223372036854775807 then ((holtref1_L8.f k 0).bind fun t150 => (if ((((⟨#[72, 79, 76, 84]⟩ : ByteArray) ++ (strOfNums y142)) ++ t145) ++ t146).size + t150.size ≤ 9223372036854775807 then (if (((((⟨#[72, 79, 76, 84]⟩ : ByteArray) ++ (strOfNums y142)) ++ t145) ++ t146) ++ t150).size + (a3 ++ (strOfNums y147)).size ≤ 9223372036854775807 then ((holtref2_Of.f k ((((((⟨#[72, 79, 76, 84]⟩ : ByteArray) ++ (strOfNums y142)) ++ t145) ++ t146) ++ t150) ++ (a3 ++ (strOfNums y147)))).bind fun t151 => ((holtref1_L8.f k t151).bind fun t152 => (if ((((⟨#[72, 79, 76, 84]⟩ : ByteArray) ++ (strOfNums y142)) ++ t145) ++ t146).size + t152.size ≤ 9223372036854775807 then (if (((((⟨#[72, 79, 76, 84]⟩ : ByteArray) ++ (strOfNums y142)) ++ t145) ++ t146) ++ t152).size + (a3 ++ (strOfNums y147)).size ≤ 9223372036854775807 then (some ((((((⟨#[72, 79, 76, 84]⟩ : ByteArray) ++ (strOfNums y142)) ++ t145) ++ t146) ++ t152) ++ (a3 ++ (strOfNums y147)), 0)) else (none)) else (none)))) else (none)) else (none))) else (none))) else (none)) else (none)) else (none)) = some (r1, r2) := H
          have A11 := Aside0.mk A110
          clear A110
          by_cases c12 : (((⟨#[72, 79, 76, 84]⟩ : ByteArray) ++ (strOfNums y142)) ++ t145).size + t146.size ≤ 9223372036854775807
          · rw [if_pos c12] at H
            have c12b0 := eq_true c12
            have c12b1 : decide ((((⟨#[72, 79, 76, 84]⟩ : ByteArray) ++ (strOfNums y142)) ++ t145).size + t146.size ≤ 9223372036854775807) = true := decide_eq_true c12
            try have c12b2 : (9223372036854775807 < (((⟨#[72, 79, 76, 84]⟩ : ByteArray) ++ (strOfNums y142)) ++ t145).size + t146.size) = False := eq_false (Nat.not_lt.2 c12)
            have c12b3 : (9223372036854775807 < (((⟨#[72, 79, 76, 84]⟩ : ByteArray) ++ (strOfNums y142)) ++ t145).size + t146.size) = False := eq_false (Nat.not_lt.2 c12)
            (try simp only [ByteArray.size_append, ByteArray.size_extract, Nat.sub_zero, Nat.min_self, show (⟨#[72, 79, 76, 84]⟩ : ByteArray).size = 4 from rfl] at c12b3)
            obtain ⟨ji13, hji13⟩ : ∃ j_ : Int, (wrap64 (480 - (a3.size : Int))) = j_ := ⟨_, rfl⟩
            replace H : (if 0 ≤ (ji13) then (if (ji13 : Int).toNat ≤ 281474976710656 then ((some (List.replicate (ji13 : Int).toNat 0 : List Int)).bind fun y147 => (if a3.size + (strOfNums y147).size ≤ 9223372036854775807 then ((holtref1_L8.f k 0).bind fun t150 => (if ((((⟨#[72, 79, 76, 84]⟩ : ByteArray) ++ (strOfNums y142)) ++ t145) ++ t146).size + t150.size ≤ 9223372036854775807 then (if (((((⟨#[72, 79, 76, 84]⟩ : ByteArray) ++ (strOfNums y142)) ++ t145) ++ t146) ++ t150).size + (a3 ++ (strOfNums y147)).size ≤ 9223372036854775807 then ((holtref2_Of.f k ((((((⟨#[72, 79, 76, 84]⟩ : ByteArray) ++ (strOfNums y142)) ++ t145) ++ t146) ++ t150) ++ (a3 ++ (strOfNums y147)))).bind fun t151 => ((holtref1_L8.f k t151).bind fun t152 => (if ((((⟨#[72, 79, 76, 84]⟩ : ByteArray) ++ (strOfNums y142)) ++ t145) ++ t146).size + t152.size ≤ 9223372036854775807 then (if (((((⟨#[72, 79, 76, 84]⟩ : ByteArray) ++ (strOfNums y142)) ++ t145) ++ t146) ++ t152).size + (a3 ++ (strOfNums y147)).size ≤ 9223372036854775807 then (some ((((((⟨#[72, 79, 76, 84]⟩ : ByteArray) ++ (strOfNums y142)) ++ t145) ++ t146) ++ t152) ++ (a3 ++ (strOfNums y147)), 0)) else (none)) else (none)))) else (none)) else (none))) else (none))) else (none)) else (none)) = some (r1, r2) := by first | (rw [hji13] at H; exact H) | (simp only [hji13] at H ⊢; exact H)
            (try rw [hji13] at A5)
            (try rw [hji13] at A9)
            (try rw [hji13] at A11)
            have hji13w : (IntKind.i64.wrap (480 - (a3.size : Int))) = ji13 := (i64_w _).trans hji13
            by_cases c14 : 0 ≤ (ji13)
            · rw [if_pos c14] at H
              have c14b0 := eq_true c14
              have c14b1 : decide (0 ≤ (ji13)) = true := decide_eq_true c14
              clear c14
              by_cases c15 : (ji13 : Int).toNat ≤ 281474976710656
              · rw [if_pos c15] at H
                have c15b0 := eq_true c15
                have c15b1 : decide ((ji13 : Int).toNat ≤ 281474976710656) = true := decide_eq_true c15
                clear c15
                obtain ⟨y147, hy147⟩ : ∃ y_ : List Int, y_ = (List.replicate (ji13 : Int).toNat 0) := ⟨_, rfl⟩
                replace H : (if a3.size + (strOfNums y147).size ≤ 9223372036854775807 then ((holtref1_L8.f k 0).bind fun t150 => (if ((((⟨#[72, 79, 76, 84]⟩ : ByteArray) ++ (strOfNums y142)) ++ t145) ++ t146).size + t150.size ≤ 9223372036854775807 then (if (((((⟨#[72, 79, 76, 84]⟩ : ByteArray) ++ (strOfNums y142)) ++ t145) ++ t146) ++ t150).size + (a3 ++ (strOfNums y147)).size ≤ 9223372036854775807 then ((holtref2_Of.f k ((((((⟨#[72, 79, 76, 84]⟩ : ByteArray) ++ (strOfNums y142)) ++ t145) ++ t146) ++ t150) ++ (a3 ++ (strOfNums y147)))).bind fun t151 => ((holtref1_L8.f k t151).bind fun t152 => (if ((((⟨#[72, 79, 76, 84]⟩ : ByteArray) ++ (strOfNums y142)) ++ t145) ++ t146).size + t152.size ≤ 9223372036854775807 then (if (((((⟨#[72, 79, 76, 84]⟩ : ByteArray) ++ (strOfNums y142)) ++ t145) ++ t146) ++ t152).size + (a3 ++ (strOfNums y147)).size ≤ 9223372036854775807 then (some ((((((⟨#[72, 79, 76, 84]⟩ : ByteArray) ++ (strOfNums y142)) ++ t145) ++ t146) ++ t152) ++ (a3 ++ (strOfNums y147)), 0)) else (none)) else (none)))) else (none)) else (none))) else (none)) = some (r1, r2) := by first | (rw [hy147]; with_reducible exact H) | (have H2_ := (Option.bind_some _ _).symm.trans H; rw [hy147]; with_reducible exact H2_) | (have H2_ := (Option.bind_some _ _).symm.trans H; with_reducible exact H2_) | with_reducible exact H | (rw [hy147]; exact H) | exact H
                have Ny147 := Aside0.mk hy147
                clear hy147
                by_cases c16 : a3.size + (strOfNums y147).size ≤ 9223372036854775807
                · rw [if_pos c16] at H
                  have c16b0 := eq_true c16
                  have c16b1 : decide (a3.size + (strOfNums y147).size ≤ 9223372036854775807) = true := decide_eq_true c16
                  try have c16b2 : (9223372036854775807 < a3.size + (strOfNums y147).size) = False := eq_false (Nat.not_lt.2 c16)
                  replace H := Option.bind_eq_some_iff.mp H
                  obtain ⟨t150, A170, H⟩ := H
                  replace H : (if ((((⟨#[72, 79, 76, 84]⟩ : ByteArray) ++ (strOfNums y142)) ++ t145) ++ t146).size + t150.size ≤ 9223372036854775807 then (if (((((⟨#[72, 79, 76, 84]⟩ : ByteArray) ++ (strOfNums y142)) ++ t145) ++ t146) ++ t150).size + (a3 ++ (strOfNums y147)).size ≤ 9223372036854775807 then ((holtref2_Of.f k ((((((⟨#[72, 79, 76, 84]⟩ : ByteArray) ++ (strOfNums y142)) ++ t145) ++ t146) ++ t150) ++ (a3 ++ (strOfNums y147)))).bind fun t151 => ((holtref1_L8.f k t151).bind fun t152 => (if ((((⟨#[72, 79, 76, 84]⟩ : ByteArray) ++ (strOfNums y142)) ++ t145) ++ t146).size + t152.size ≤ 9223372036854775807 then (if (((((⟨#[72, 79, 76, 84]⟩ : ByteArray) ++ (strOfNums y142)) ++ t145) ++ t146) ++ t152).size + (a3 ++ (strOfNums y147)).size ≤ 9223372036854775807 then (some ((((((⟨#[72, 79, 76, 84]⟩ : ByteArray) ++ (strOfNums y142)) ++ t145) ++ t146) ++ t152) ++ (a3 ++ (strOfNums y147)), 0)) else (none)) else (none)))) else (none)) else (none)) = some (r1, r2) := H
                  have A17 := Aside0.mk A170
                  clear A170
                  by_cases c18 : ((((⟨#[72, 79, 76, 84]⟩ : ByteArray) ++ (strOfNums y142)) ++ t145) ++ t146).size + t150.size ≤ 9223372036854775807
                  · rw [if_pos c18] at H
                    have c18b0 := eq_true c18
                    have c18b1 : decide (((((⟨#[72, 79, 76, 84]⟩ : ByteArray) ++ (strOfNums y142)) ++ t145) ++ t146).size + t150.size ≤ 9223372036854775807) = true := decide_eq_true c18
                    try have c18b2 : (9223372036854775807 < ((((⟨#[72, 79, 76, 84]⟩ : ByteArray) ++ (strOfNums y142)) ++ t145) ++ t146).size + t150.size) = False := eq_false (Nat.not_lt.2 c18)
                    have c18b3 : (9223372036854775807 < ((((⟨#[72, 79, 76, 84]⟩ : ByteArray) ++ (strOfNums y142)) ++ t145) ++ t146).size + t150.size) = False := eq_false (Nat.not_lt.2 c18)
                    (try simp only [ByteArray.size_append, ByteArray.size_extract, Nat.sub_zero, Nat.min_self, show (⟨#[72, 79, 76, 84]⟩ : ByteArray).size = 4 from rfl] at c18b3)
                    by_cases c19 : (((((⟨#[72, 79, 76, 84]⟩ : ByteArray) ++ (strOfNums y142)) ++ t145) ++ t146) ++ t150).size + (a3 ++ (strOfNums y147)).size ≤ 9223372036854775807
                    · rw [if_pos c19] at H
                      have c19b0 := eq_true c19
                      have c19b1 : decide ((((((⟨#[72, 79, 76, 84]⟩ : ByteArray) ++ (strOfNums y142)) ++ t145) ++ t146) ++ t150).size + (a3 ++ (strOfNums y147)).size ≤ 9223372036854775807) = true := decide_eq_true c19
                      try have c19b2 : (9223372036854775807 < (((((⟨#[72, 79, 76, 84]⟩ : ByteArray) ++ (strOfNums y142)) ++ t145) ++ t146) ++ t150).size + (a3 ++ (strOfNums y147)).size) = False := eq_false (Nat.not_lt.2 c19)
                      have c19b3 : (9223372036854775807 < (((((⟨#[72, 79, 76, 84]⟩ : ByteArray) ++ (strOfNums y142)) ++ t145) ++ t146) ++ t150).size + (a3 ++ (strOfNums y147)).size) = False := eq_false (Nat.not_lt.2 c19)
                      (try simp only [ByteArray.size_append, ByteArray.size_extract, Nat.sub_zero, Nat.min_self, show (⟨#[72, 79, 76, 84]⟩ : ByteArray).size = 4 from rfl] at c19b3)
                      replace H := Option.bind_eq_some_iff.mp H
                      obtain ⟨t151, A200, H⟩ := H
                      replace H : ((holtref1_L8.f k t151).bind fun t152 => (if ((((⟨#[72, 79, 76, 84]⟩ : ByteArray) ++ (strOfNums y142)) ++ t145) ++ t146).size + t152.size ≤ 9223372036854775807 then (if (((((⟨#[72, 79, 76, 84]⟩ : ByteArray) ++ (strOfNums y142)) ++ t145) ++ t146) ++ t152).size + (a3 ++ (strOfNums y147)).size ≤ 9223372036854775807 then (some ((((((⟨#[72, 79, 76, 84]⟩ : ByteArray) ++ (strOfNums y142)) ++ t145) ++ t146) ++ t152) ++ (a3 ++ (strOfNums y147)), 0)) else (none)) else (none))) = some (r1, r2) := H
                      have A20 := Aside0.mk A200
                      clear A200
                      replace H := Option.bind_eq_some_iff.mp H
                      obtain ⟨t152, A210, H⟩ := H
                      replace H : (if ((((⟨#[72, 79, 76, 84]⟩ : ByteArray) ++ (strOfNums y142)) ++ t145) ++ t146).size + t152.size ≤ 9223372036854775807 then (if (((((⟨#[72, 79, 76, 84]⟩ : ByteArray) ++ (strOfNums y142)) ++ t145) ++ t146) ++ t152).size + (a3 ++ (strOfNums y147)).size ≤ 9223372036854775807 then (some ((((((⟨#[72, 79, 76, 84]⟩ : ByteArray) ++ (strOfNums y142)) ++ t145) ++ t146) ++ t152) ++ (a3 ++ (strOfNums y147)), 0)) else (none)) else (none)) = some (r1, r2) := H
                      have A21 := Aside0.mk A210
                      clear A210
                      by_cases c22 : ((((⟨#[72, 79, 76, 84]⟩ : ByteArray) ++ (strOfNums y142)) ++ t145) ++ t146).size + t152.size ≤ 9223372036854775807
                      · rw [if_pos c22] at H
                        have c22b0 := eq_true c22
                        have c22b1 : decide (((((⟨#[72, 79, 76, 84]⟩ : ByteArray) ++ (strOfNums y142)) ++ t145) ++ t146).size + t152.size ≤ 9223372036854775807) = true := decide_eq_true c22
                        try have c22b2 : (9223372036854775807 < ((((⟨#[72, 79, 76, 84]⟩ : ByteArray) ++ (strOfNums y142)) ++ t145) ++ t146).size + t152.size) = False := eq_false (Nat.not_lt.2 c22)
                        have c22b3 : (9223372036854775807 < ((((⟨#[72, 79, 76, 84]⟩ : ByteArray) ++ (strOfNums y142)) ++ t145) ++ t146).size + t152.size) = False := eq_false (Nat.not_lt.2 c22)
                        (try simp only [ByteArray.size_append, ByteArray.size_extract, Nat.sub_zero, Nat.min_self, show (⟨#[72, 79, 76, 84]⟩ : ByteArray).size = 4 from rfl] at c22b3)
                        by_cases c23 : (((((⟨#[72, 79, 76, 84]⟩ : ByteArray) ++ (strOfNums y142)) ++ t145) ++ t146) ++ t152).size + (a3 ++ (strOfNums y147)).size ≤ 9223372036854775807
                        · rw [if_pos c23] at H
                          have c23b0 := eq_true c23
                          have c23b1 : decide ((((((⟨#[72, 79, 76, 84]⟩ : ByteArray) ++ (strOfNums y142)) ++ t145) ++ t146) ++ t152).size + (a3 ++ (strOfNums y147)).size ≤ 9223372036854775807) = true := decide_eq_true c23
                          try have c23b2 : (9223372036854775807 < (((((⟨#[72, 79, 76, 84]⟩ : ByteArray) ++ (strOfNums y142)) ++ t145) ++ t146) ++ t152).size + (a3 ++ (strOfNums y147)).size) = False := eq_false (Nat.not_lt.2 c23)
                          have c23b3 : (9223372036854775807 < (((((⟨#[72, 79, 76, 84]⟩ : ByteArray) ++ (strOfNums y142)) ++ t145) ++ t146) ++ t152).size + (a3 ++ (strOfNums y147)).size) = False := eq_false (Nat.not_lt.2 c23)
                          (try simp only [ByteArray.size_append, ByteArray.size_extract, Nat.sub_zero, Nat.min_self, show (⟨#[72, 79, 76, 84]⟩ : ByteArray).size = 4 from rfl] at c23b3)
                          simp only [Option.some.injEq, Prod.mk.injEq] at H
                          obtain ⟨rfl, rfl⟩ := H
                          go_enter Tryd.func20, Tryd.ntmps20
                          try go_wp2_with (first | ((with_reducible refine gate_callee (f := 26) rfl ?_); refine goesL_ (some 13) rfl rfl Tryd.func26 (by kernel_rfl) rfl #[.int .i64 a0] rfl (by (try simp only [List.map_toArray, List.map_cons, List.map_nil]); first | done | rfl | (simp only [List.length_drop, List.length_take]; rfl) | ((try simp only [decide_eq_false_iff_not, decide_eq_true_eq] at *); refine congrArg List.toArray ?_; (repeat' (first | with_reducible rfl | refine List.cons_eq_cons.2 ⟨?_, ?_⟩)); all_goals (first | rfl | (refine congrArg (Value.int _) ?_; unfold Go.RowKit.wrap64; omega)))) ?_; (with_reducible refine (holtref4_kind.calls a0 true _ A5.out).mono ?_); rintro e w' ⟨rfl, ⟨nd, rfl⟩⟩; refine ⟨_, rfl, ?_⟩))
                          first | (rw [drewN_self w]; generalize hq_ : World.drewN w _ = w24) | (generalize hq_ : World.drewN w 0 = w24; rw [show w = w24 from hq_])
                          have n0_ := Aside0.mk (below_at hq_ HB.out)
                          clear HB
                          have HB := n0_
                          clear n0_
                          clear hq_
                          have n0_ := Aside0.mk (below_drew1 HB.out)
                          clear HB
                          have HB := n0_
                          clear n0_
                          refine start_ (n := 12) (S := fun w' => True) (ds := []) #[false, false, false, false, false, false, false, false, false, false, false, false] (by kernel_rfl) rfl rfl trivial (fun hHeld => ?_); refine with_tabW holtref4_Seal.tab5 holtref4_Seal.bits5 (fun HT_ HW_ => ?_)
                          generalize w24.drew = w25 at HB hHeld ⊢
                          refine pure_ (i := 0) (N := some 18) (v := ?_) (a' := ?_) #[true, false, false, false, false, false, false, false, false, false, false, false] rfl rfl (any_of HT_.out (by kernel_rfl)) (fun _ _ _ h => h) (Or.inl ⟨by rfl, ?_⟩) ?_ ?_
                          rotate_left
                          · intro w'
                            go_simp
                            with_reducible rfl
                          rotate_left
                          · simp only [Act.put, List.setIfInBounds_toArray, List.set_cons_zero, List.set_cons_succ, i64_w, i32_w]
                            rfl
                          refine pure_ (i := 1) (N := some 19) (v := ?_) (a' := ?_) #[true, true, false, false, false, false, false, false, false, false, false, false] rfl rfl (any_of HT_.out (by kernel_rfl)) (fun _ _ _ h => h) (Or.inl ⟨by rfl, ?_⟩) ?_ ?_
                          rotate_left
                          · intro w'
                            go_simp
                            with_reducible rfl
                          rotate_left
                          · simp only [Act.put, List.setIfInBounds_toArray, List.set_cons_zero, List.set_cons_succ, i64_w, i32_w]
                            rfl
                          refine pure_ (i := 5) (N := some 23) (v := ?_) (a' := ?_) #[true, true, false, false, false, true, false, false, false, false, false, false] rfl rfl (any_of HT_.out (by kernel_rfl)) (fun _ _ _ h => h) (Or.inl ⟨by rfl, ?_⟩) ?_ ?_
                          rotate_left
                          · intro w'
                            go_simp
                            with_reducible rfl
                          rotate_left
                          · simp only [Act.put, List.setIfInBounds_toArray, List.set_cons_zero, List.set_cons_succ, i64_w, i32_w]
                            rfl
                          refine pure_ (i := 8) (N := some 26) (v := ?_) (a' := ?_) #[true, true, false, false, false, true, false, false, true, false, false, false] rfl rfl (any_of HT_.out (by kernel_rfl)) (fun _ _ _ h => h) (Or.inl ⟨by rfl, ?_⟩) ?_ ?_
                          rotate_left
                          · intro w'
                            go_simp
                            with_reducible rfl
                          rotate_left
                          · simp only [Act.put, List.setIfInBounds_toArray, List.set_cons_zero, List.set_cons_succ, i64_w, i32_w]
                            rfl
                          refine join_ (σ := Value) 2 #[true, true, true, true, true, true, true, true, true, true, false, false] (fun s_ => [(20, s_), (21, .string (strOfNums y142)), (24, .string t145), (27, .string t146), (22, .string ((⟨#[72, 79, 76, 84]⟩ : ByteArray) ++ (strOfNums y142))), (25, .string (((⟨#[72, 79, 76, 84]⟩ : ByteArray) ++ (strOfNums y142)) ++ t145))]) (fun s_ w' => (Kd.R (Kd.int .u8) 5 w' w.heap.size (fun _ => True) s_ y142) ∧ (Below w.heap.size w w')) ?_ ?_
                          rotate_left
                          · intro hJ2_3_6_9
                            refine join_ (σ := Value) 3 #[true, true, true, true, true, true, true, true, true, false, false, false] (fun s_ => [(20, s_), (21, .string (strOfNums y142)), (24, .string t145), (22, .string ((⟨#[72, 79, 76, 84]⟩ : ByteArray) ++ (strOfNums y142))), (25, .string (((⟨#[72, 79, 76, 84]⟩ : ByteArray) ++ (strOfNums y142)) ++ t145))]) (fun s_ w' => (Kd.R (Kd.int .u8) 5 w' w.heap.size (fun _ => True) s_ y142) ∧ (Below w.heap.size w w')) ?_ ?_
                            rotate_left
                            · intro hJ2_3_6
                              refine join_ (σ := Value) 5 #[true, true, true, false, false, true, true, false, true, true, false, false] (fun s_ => [(20, s_), (24, .string t145), (27, .string t146)]) (fun s_ w' => (Kd.R (Kd.int .u8) 5 w' w.heap.size (fun _ => True) s_ y142) ∧ (Below w.heap.size w w')) ?_ ?_
                              rotate_left
                              · intro hJ2_6_9
                                refine join_ (σ := Value) 5 #[true, true, true, true, true, true, false, false, true, false, false, false] (fun s_ => [(20, s_), (21, .string (strOfNums y142)), (22, .string ((⟨#[72, 79, 76, 84]⟩ : ByteArray) ++ (strOfNums y142)))]) (fun s_ w' => (Kd.R (Kd.int .u8) 5 w' w.heap.size (fun _ => True) s_ y142) ∧ (Below w.heap.size w w')) ?_ ?_
                                rotate_left
                                · intro hJ2_3
                                  refine join_ (σ := Value) 6 #[true, true, true, false, false, true, true, false, true, false, false, false] (fun s_ => [(20, s_), (24, .string t145)]) (fun s_ w' => (Kd.R (Kd.int .u8) 5 w' w.heap.size (fun _ => True) s_ y142) ∧ (Below w.heap.size w w')) ?_ ?_
                                  rotate_left
                                  · intro hJ2_6
                                    refine join_ (σ := Unit) 6 #[true, true, false, false, false, true, true, false, true, true, false, false] (fun s_ => [(24, .string t145), (27, .string t146)]) (fun s_ w' => (Below w.heap.size w w')) ?_ ?_
                                    rotate_left
                                    · intro hJ6_9
                                      refine join_ (σ := Value) 7 #[true, true, true, false, false, true, false, false, true, false, false, false] (fun s_ => [(20, s_)]) (fun s_ w' => (Kd.R (Kd.int .u8) 5 w' w.heap.size (fun _ => True) s_ y142) ∧ (Below w.heap.size w w')) ?_ ?_
                                      rotate_left
                                      · intro hJ2
                                        refine join_ (σ := Unit) 7 #[true, true, false, false, false, true, true, false, true, false, false, false] (fun s_ => [(24, .string t145)]) (fun s_ w' => (Below w.heap.size w w')) ?_ ?_
                                        rotate_left
                                        · intro hJ6
                                          refine two_ (i := 2) (j := 6) (Ni := some 20) (Nj := some 24) #[true, true, true, false, false, true, false, false, true, false, false, false] #[true, true, false, false, false, true, true, false, true, false, false, false] rfl rfl rfl rfl (two_of HT_.out (by kernel_rfl)) (by decide) (by decide) (fun K hK => ?_) (fun K hK => ?_)
                                          · skip
                                            refine Kd.R_lit_step (Kd.int .u8) _ 5 ?hg (N := 20) ?hd (xs := ([(a0) % 256, 0, 0, 0] : List Int)) (inner := [.int .u8 ((a0) % 256), .int .u8 0, .int .u8 0, .int .u8 0]) (ok := fun _ => True) (okp := fun _ => True) ?hr ?hp (fun _ hk => hk) trivial (Below.refl _ _) (Nat.le_refl _) (by simp) ?_; (case hd => rfl); (case hg => rfl); (case hr => first | (go_simp; done) | (go_simp; rfl)); (case hp => exact (Reps.one (show Kd.M (Kd.int .u8) _ _ _ ((a0) % 256) [.int .u8 ((a0) % 256)] from rfl) (Reps.one (show Kd.M (Kd.int .u8) _ _ _ 0 [.int .u8 0] from rfl) (Reps.one (show Kd.M (Kd.int .u8) _ _ _ 0 [.int .u8 0] from rfl) (Reps.one (show Kd.M (Kd.int .u8) _ _ _ 0 [.int .u8 0] from rfl) (Reps.none _ _))))))
                                            intro v143 w26 ho27 hb hg_ hnew_
                                            clear hg_ hnew_
                                            (first | rw [← Ny142.out] at ho27 | (simp only [Int.reduceToNat] at ho27; rw [← Ny142.out] at ho27))
                                            have n0_ := Aside0.mk (Kd.R_lower ho27 (below_size (by repeat (first | (with_reducible first | exact HB.out | apply below_alloc | apply pw_below_drewN | apply below_drew1) | exact HB.out))))
                                            have n1_ := Aside0.mk (below_step (by repeat (first | (with_reducible first | exact HB.out | apply below_alloc | apply pw_below_drewN | apply below_drew1) | exact HB.out)) hb)
                                            clear HB
                                            have HO144 := n0_
                                            have HB := n1_
                                            clear n0_ n1_
                                            clear hb ho27
                                            refine hK.out _ _ trivial (fun hHeld => ?_)
                                            clear hK K
                                            refine norm_ (a' := ?_) ?_ ?_
                                            rotate_left
                                            · show Act.put _ (some 20) _ = _
                                              simp only [Act.put, List.setIfInBounds_toArray, List.set_cons_zero, List.set_cons_succ, i64_w, i32_w]
                                              rfl
                                            exact norm_ (by first | (simp only [putAll, Act.put, List.setIfInBounds_toArray, List.set_cons_zero, List.set_cons_succ]; done) | (simp only [putAll, Act.put, List.setIfInBounds_toArray, List.set_cons_zero, List.set_cons_succ]; rfl)) (hJ2 (v143) _ ⟨(by (with_reducible repeat (first | apply Kd.R_alloc | apply Kd.R_drewN | apply Kd.R_drew)); exact HO144.out), (by repeat (first | (with_reducible first | exact HB.out | apply below_alloc | apply pw_below_drewN | apply below_drew1) | exact HB.out))⟩)
                                          · skip
                                            refine goes_ Tryd.func21 (by kernel_rfl) rfl #[.int .u64 a1] (by rfl) rfl rfl (by (try simp only [List.map_toArray, List.map_cons, List.map_nil]); first | done | rfl | (simp only [List.length_drop, List.length_take]; rfl)) ?_
                                            with_reducible refine (holtref1_L8.calls k a1 t145 _ A9.out).mono ?_
                                            rintro e w26 ⟨rfl, hb⟩
                                            refine ⟨_, rfl, ?_⟩
                                            have n0_ := Aside0.mk (below_step (by repeat (first | (with_reducible first | exact HB.out | apply below_alloc | apply pw_below_drewN | apply below_drew1) | exact HB.out)) hb)
                                            clear HB
                                            have HB := n0_
                                            clear n0_
                                            (try clear hb)
                                            (try clear hb2)
                                            (try clear hk)
                                            (try clear hi)
                                            refine hK.out _ _ trivial (fun hHeld => ?_)
                                            clear hK K
                                            refine norm_ (a' := ?_) ?_ ?_
                                            rotate_left
                                            · show Act.put _ (some 24) _ = _
                                              simp only [Act.put, List.setIfInBounds_toArray, List.set_cons_zero, List.set_cons_succ, i64_w, i32_w]
                                              rfl
                                            exact norm_ (by first | (simp only [putAll, Act.put, List.setIfInBounds_toArray, List.set_cons_zero, List.set_cons_succ]; done) | (simp only [putAll, Act.put, List.setIfInBounds_toArray, List.set_cons_zero, List.set_cons_succ]; rfl)) (hJ6 () _ (by repeat (first | (with_reducible first | exact HB.out | apply below_alloc | apply pw_below_drewN | apply below_drew1) | exact HB.out)))
                                        · skip
                                          rintro _ w27 h0_
                                          have n0_ : Aside0 (Below w.heap.size w w27) := ⟨h0_⟩
                                          clear HB
                                          clear h0_
                                          have HB := n0_
                                          clear n0_
                                          have hHeld := trivial
                                          refine norm_ (a' := ?_) ?_ ?_
                                          rotate_left
                                          · simp only [putAll, Act.put, List.setIfInBounds_toArray, List.set_cons_zero, List.set_cons_succ]
                                            rfl
                                          refine two_ (i := 2) (j := 9) (Ni := some 20) (Nj := some 27) #[true, true, true, false, false, true, true, false, true, false, false, false] #[true, true, false, false, false, true, true, false, true, true, false, false] rfl rfl rfl rfl (two_of HT_.out (by kernel_rfl)) (by decide) (by decide) (fun K hK => ?_) (fun K hK => ?_)
                                          · skip
                                            refine Kd.R_lit_step (Kd.int .u8) _ 5 ?hg (N := 20) ?hd (xs := ([(a0) % 256, 0, 0, 0] : List Int)) (inner := [.int .u8 ((a0) % 256), .int .u8 0, .int .u8 0, .int .u8 0]) (ok := fun _ => True) (okp := fun _ => True) ?hr ?hp (fun _ hk => hk) trivial (Below.refl _ _) (Nat.le_refl _) (by simp) ?_; (case hd => rfl); (case hg => rfl); (case hr => first | (go_simp; done) | (go_simp; rfl)); (case hp => exact (Reps.one (show Kd.M (Kd.int .u8) _ _ _ ((a0) % 256) [.int .u8 ((a0) % 256)] from rfl) (Reps.one (show Kd.M (Kd.int .u8) _ _ _ 0 [.int .u8 0] from rfl) (Reps.one (show Kd.M (Kd.int .u8) _ _ _ 0 [.int .u8 0] from rfl) (Reps.one (show Kd.M (Kd.int .u8) _ _ _ 0 [.int .u8 0] from rfl) (Reps.none _ _))))))
                                            intro v143 w28 ho29 hb hg_ hnew_
                                            clear hg_ hnew_
                                            (first | rw [← Ny142.out] at ho29 | (simp only [Int.reduceToNat] at ho29; rw [← Ny142.out] at ho29))
                                            have n0_ := Aside0.mk (Kd.R_lower ho29 (below_size (by repeat (first | (with_reducible first | exact HB.out | apply below_alloc | apply pw_below_drewN | apply below_drew1) | exact HB.out))))
                                            have n1_ := Aside0.mk (below_step (by repeat (first | (with_reducible first | exact HB.out | apply below_alloc | apply pw_below_drewN | apply below_drew1) | exact HB.out)) hb)
                                            clear HB
                                            have HO144 := n0_
                                            have HB := n1_
                                            clear n0_ n1_
                                            clear hb ho29
                                            refine hK.out _ _ trivial (fun hHeld => ?_)
                                            clear hK K
                                            refine norm_ (a' := ?_) ?_ ?_
                                            rotate_left
                                            · show Act.put _ (some 20) _ = _
                                              simp only [Act.put, List.setIfInBounds_toArray, List.set_cons_zero, List.set_cons_succ, i64_w, i32_w]
                                              rfl
                                            exact norm_ (by first | (simp only [putAll, Act.put, List.setIfInBounds_toArray, List.set_cons_zero, List.set_cons_succ]; done) | (simp only [putAll, Act.put, List.setIfInBounds_toArray, List.set_cons_zero, List.set_cons_succ]; rfl)) (hJ2_6 (v143) _ ⟨(by (with_reducible repeat (first | apply Kd.R_alloc | apply Kd.R_drewN | apply Kd.R_drew)); exact HO144.out), (by repeat (first | (with_reducible first | exact HB.out | apply below_alloc | apply pw_below_drewN | apply below_drew1) | exact HB.out))⟩)
                                          · skip
                                            refine goes_ Tryd.func21 (by kernel_rfl) rfl #[.int .u64 a2] (by rfl) rfl rfl (by (try simp only [List.map_toArray, List.map_cons, List.map_nil]); first | done | rfl | (simp only [List.length_drop, List.length_take]; rfl)) ?_
                                            with_reducible refine (holtref1_L8.calls k a2 t146 _ A11.out).mono ?_
                                            rintro e w28 ⟨rfl, hb⟩
                                            refine ⟨_, rfl, ?_⟩
                                            have n0_ := Aside0.mk (below_step (by repeat (first | (with_reducible first | exact HB.out | apply below_alloc | apply pw_below_drewN | apply below_drew1) | exact HB.out)) hb)
                                            clear HB
                                            have HB := n0_
                                            clear n0_
                                            (try clear hb)
                                            (try clear hb2)
                                            (try clear hk)
                                            (try clear hi)
                                            refine hK.out _ _ trivial (fun hHeld => ?_)
                                            clear hK K
                                            refine norm_ (a' := ?_) ?_ ?_
                                            rotate_left
                                            · show Act.put _ (some 27) _ = _
                                              simp only [Act.put, List.setIfInBounds_toArray, List.set_cons_zero, List.set_cons_succ, i64_w, i32_w]
                                              rfl
                                            exact norm_ (by first | (simp only [putAll, Act.put, List.setIfInBounds_toArray, List.set_cons_zero, List.set_cons_succ]; done) | (simp only [putAll, Act.put, List.setIfInBounds_toArray, List.set_cons_zero, List.set_cons_succ]; rfl)) (hJ6_9 () _ (by repeat (first | (with_reducible first | exact HB.out | apply below_alloc | apply pw_below_drewN | apply below_drew1) | exact HB.out)))
                                      · skip
                                        rintro v143 w28 ⟨h0_, h1_⟩
                                        have n0_ : Aside0 (Kd.R (Kd.int .u8) 5 w28 w.heap.size (fun _ => True) v143 y142) := ⟨h0_⟩
                                        have n1_ : Aside0 (Below w.heap.size w w28) := ⟨h1_⟩
                                        clear HB
                                        clear h0_ h1_
                                        have HO144 := n0_
                                        have HB := n1_
                                        clear n0_ n1_
                                        have hHeld := trivial
                                        refine norm_ (a' := ?_) ?_ ?_
                                        rotate_left
                                        · simp only [putAll, Act.put, List.setIfInBounds_toArray, List.set_cons_zero, List.set_cons_succ]
                                          rfl
                                        refine two_ (i := 3) (j := 6) (Ni := some 21) (Nj := some 24) #[true, true, true, true, false, true, false, false, true, false, false, false] #[true, true, true, false, false, true, true, false, true, false, false, false] rfl rfl rfl rfl (two_of HT_.out (by kernel_rfl)) (by decide) (by decide) (fun K hK => ?_) (fun K hK => ?_)
                                        · skip
                                          have hcv29 := own_string (P := Tryd.prog) Tryd.underlying63 Tryd.underlying5 Tryd.underlying9 (Kd.own_of_R HO144.out)
                                          refine value_ (w1 := ?_) (v := ?_) (by rfl) rfl ?_ ?_
                                          rotate_left 2
                                          · go_simp
                                            constructor
                                            · rfl
                                            · rfl
                                          clear hcv29
                                          refine hK.out _ _ trivial (fun hHeld => ?_)
                                          clear hK K
                                          refine norm_ (a' := ?_) ?_ ?_
                                          rotate_left
                                          · show Act.put _ (some 21) _ = _
                                            simp only [Act.put, List.setIfInBounds_toArray, List.set_cons_zero, List.set_cons_succ, i64_w, i32_w]
                                            rfl
                                          refine pure_ (i := 4) (N := some 22) (v := ?_) (a' := ?_) #[true, true, true, true, true, true, false, false, true, false, false, false] rfl rfl (any_of HT_.out (by kernel_rfl)) (fun _ _ _ h => h) (Or.inl ⟨by rfl, ?_⟩) ?_ ?_
                                          rotate_left
                                          · intro w'
                                            go_simp
                                            with_reducible rfl
                                          rotate_left
                                          · simp only [Act.put, List.setIfInBounds_toArray, List.set_cons_zero, List.set_cons_succ, i64_w, i32_w]
                                            rfl
                                          exact norm_ (by first | (simp only [putAll, Act.put, List.setIfInBounds_toArray, List.set_cons_zero, List.set_cons_succ]; done) | (simp only [putAll, Act.put, List.setIfInBounds_toArray, List.set_cons_zero, List.set_cons_succ]; rfl)) (hJ2_3 (v143) _ ⟨(by (with_reducible repeat (first | apply Kd.R_alloc | apply Kd.R_drewN | apply Kd.R_drew)); exact HO144.out), (by repeat (first | (with_reducible first | exact HB.out | apply below_alloc | apply pw_below_drewN | apply below_drew1) | exact HB.out))⟩)
                                        · skip
                                          refine goes_ Tryd.func21 (by kernel_rfl) rfl #[.int .u64 a1] (by rfl) rfl rfl (by (try simp only [List.map_toArray, List.map_cons, List.map_nil]); first | done | rfl | (simp only [List.length_drop, List.length_take]; rfl)) ?_
                                          with_reducible refine (holtref1_L8.calls k a1 t145 _ A9.out).mono ?_
                                          rintro e w29 ⟨rfl, hb⟩
                                          refine ⟨_, rfl, ?_⟩
                                          have n0_ := Aside0.mk (Kd.R_below (by (with_reducible repeat (first | apply Kd.R_alloc | apply Kd.R_drewN | apply Kd.R_drew)); exact HO144.out) hb)
                                          have n1_ := Aside0.mk (below_step (by repeat (first | (with_reducible first | exact HB.out | apply below_alloc | apply pw_below_drewN | apply below_drew1) | exact HB.out)) hb)
                                          clear HO144
                                          clear HB
                                          have HO144 := n0_
                                          have HB := n1_
                                          clear n0_ n1_
                                          (try clear hb)
                                          (try clear hb2)
                                          (try clear hk)
                                          (try clear hi)
                                          refine hK.out _ _ trivial (fun hHeld => ?_)
                                          clear hK K
                                          refine norm_ (a' := ?_) ?_ ?_
                                          rotate_left
                                          · show Act.put _ (some 24) _ = _
                                            simp only [Act.put, List.setIfInBounds_toArray, List.set_cons_zero, List.set_cons_succ, i64_w, i32_w]
                                            rfl
                                          exact norm_ (by first | (simp only [putAll, Act.put, List.setIfInBounds_toArray, List.set_cons_zero, List.set_cons_succ]; done) | (simp only [putAll, Act.put, List.setIfInBounds_toArray, List.set_cons_zero, List.set_cons_succ]; rfl)) (hJ2_6 (v143) _ ⟨(by (with_reducible repeat (first | apply Kd.R_alloc | apply Kd.R_drewN | apply Kd.R_drew)); exact HO144.out), (by repeat (first | (with_reducible first | exact HB.out | apply below_alloc | apply pw_below_drewN | apply below_drew1) | exact HB.out))⟩)
                                    · skip
                                      rintro _ w28 h0_
                                      have n0_ : Aside0 (Below w.heap.size w w28) := ⟨h0_⟩
                                      clear HB
                                      clear h0_
                                      have HB := n0_
                                      clear n0_
                                      have hHeld := trivial
                                      refine norm_ (a' := ?_) ?_ ?_
                                      rotate_left
                                      · simp only [putAll, Act.put, List.setIfInBounds_toArray, List.set_cons_zero, List.set_cons_succ]
                                        rfl
                                      refine one_ (i := 2) (N := some 20) #[true, true, true, false, false, true, true, false, true, true, false, false] rfl rfl (one_of HT_.out (by kernel_rfl)) (by decide) (fun K hK => ?_)
                                      refine Kd.R_lit_step (Kd.int .u8) _ 5 ?hg (N := 20) ?hd (xs := ([(a0) % 256, 0, 0, 0] : List Int)) (inner := [.int .u8 ((a0) % 256), .int .u8 0, .int .u8 0, .int .u8 0]) (ok := fun _ => True) (okp := fun _ => True) ?hr ?hp (fun _ hk => hk) trivial (Below.refl _ _) (Nat.le_refl _) (by simp) ?_; (case hd => rfl); (case hg => rfl); (case hr => first | (go_simp; done) | (go_simp; rfl)); (case hp => exact (Reps.one (show Kd.M (Kd.int .u8) _ _ _ ((a0) % 256) [.int .u8 ((a0) % 256)] from rfl) (Reps.one (show Kd.M (Kd.int .u8) _ _ _ 0 [.int .u8 0] from rfl) (Reps.one (show Kd.M (Kd.int .u8) _ _ _ 0 [.int .u8 0] from rfl) (Reps.one (show Kd.M (Kd.int .u8) _ _ _ 0 [.int .u8 0] from rfl) (Reps.none _ _))))))
                                      intro v143 w29 ho30 hb hg_ hnew_
                                      clear hg_ hnew_
                                      (first | rw [← Ny142.out] at ho30 | (simp only [Int.reduceToNat] at ho30; rw [← Ny142.out] at ho30))
                                      have n0_ := Aside0.mk (Kd.R_lower ho30 (below_size (by repeat (first | (with_reducible first | exact HB.out | apply below_alloc | apply pw_below_drewN | apply below_drew1) | exact HB.out))))
                                      have n1_ := Aside0.mk (below_step (by repeat (first | (with_reducible first | exact HB.out | apply below_alloc | apply pw_below_drewN | apply below_drew1) | exact HB.out)) hb)
                                      clear HB
                                      have HO144 := n0_
                                      have HB := n1_
                                      clear n0_ n1_
                                      clear hb ho30
                                      refine hK.out _ _ trivial (fun hHeld => ?_)
                                      clear hK K
                                      refine norm_ (a' := ?_) ?_ ?_
                                      rotate_left
                                      · show Act.put _ (some 20) _ = _
                                        simp only [Act.put, List.setIfInBounds_toArray, List.set_cons_zero, List.set_cons_succ, i64_w, i32_w]
                                        rfl
                                      exact norm_ (by first | (simp only [putAll, Act.put, List.setIfInBounds_toArray, List.set_cons_zero, List.set_cons_succ]; done) | (simp only [putAll, Act.put, List.setIfInBounds_toArray, List.set_cons_zero, List.set_cons_succ]; rfl)) (hJ2_6_9 (v143) _ ⟨(by (with_reducible repeat (first | apply Kd.R_alloc | apply Kd.R_drewN | apply Kd.R_drew)); exact HO144.out), (by repeat (first | (with_reducible first | exact HB.out | apply below_alloc | apply pw_below_drewN | apply below_drew1) | exact HB.out))⟩)
                                  · skip
                                    rintro v143 w29 ⟨h0_, h1_⟩
                                    have n0_ : Aside0 (Kd.R (Kd.int .u8) 5 w29 w.heap.size (fun _ => True) v143 y142) := ⟨h0_⟩
                                    have n1_ : Aside0 (Below w.heap.size w w29) := ⟨h1_⟩
                                    clear HB
                                    clear h0_ h1_
                                    have HO144 := n0_
                                    have HB := n1_
                                    clear n0_ n1_
                                    have hHeld := trivial
                                    refine norm_ (a' := ?_) ?_ ?_
                                    rotate_left
                                    · simp only [putAll, Act.put, List.setIfInBounds_toArray, List.set_cons_zero, List.set_cons_succ]
                                      rfl
                                    refine two_ (i := 3) (j := 9) (Ni := some 21) (Nj := some 27) #[true, true, true, true, false, true, true, false, true, false, false, false] #[true, true, true, false, false, true, true, false, true, true, false, false] rfl rfl rfl rfl (two_of HT_.out (by kernel_rfl)) (by decide) (by decide) (fun K hK => ?_) (fun K hK => ?_)
                                    · skip
                                      have hcv30 := own_string (P := Tryd.prog) Tryd.underlying63 Tryd.underlying5 Tryd.underlying9 (Kd.own_of_R HO144.out)
                                      refine value_ (w1 := ?_) (v := ?_) (by rfl) rfl ?_ ?_
                                      rotate_left 2
                                      · go_simp
                                        constructor
                                        · rfl
                                        · rfl
                                      clear hcv30
                                      refine hK.out _ _ trivial (fun hHeld => ?_)
                                      clear hK K
                                      refine norm_ (a' := ?_) ?_ ?_
                                      rotate_left
                                      · show Act.put _ (some 21) _ = _
                                        simp only [Act.put, List.setIfInBounds_toArray, List.set_cons_zero, List.set_cons_succ, i64_w, i32_w]
                                        rfl
                                      refine pure_ (i := 4) (N := some 22) (v := ?_) (a' := ?_) #[true, true, true, true, true, true, true, false, true, false, false, false] rfl rfl (any_of HT_.out (by kernel_rfl)) (fun _ _ _ h => h) (Or.inl ⟨by rfl, ?_⟩) ?_ ?_
                                      rotate_left
                                      · intro w'
                                        go_simp
                                        with_reducible rfl
                                      rotate_left
                                      · simp only [Act.put, List.setIfInBounds_toArray, List.set_cons_zero, List.set_cons_succ, i64_w, i32_w]
                                        rfl
                                      refine pure_ (i := 7) (N := some 25) (v := ?_) (a' := ?_) #[true, true, true, true, true, true, true, true, true, false, false, false] rfl rfl (any_of HT_.out (by kernel_rfl)) (fun _ _ _ h => h) (Or.inl ⟨by rfl, ?_⟩) ?_ ?_
                                      rotate_left
                                      · intro w'
                                        go_simp
                                        with_reducible rfl
                                      rotate_left
                                      · simp only [Act.put, List.setIfInBounds_toArray, List.set_cons_zero, List.set_cons_succ, i64_w, i32_w]
                                        rfl
                                      exact norm_ (by first | (simp only [putAll, Act.put, List.setIfInBounds_toArray, List.set_cons_zero, List.set_cons_succ]; done) | (simp only [putAll, Act.put, List.setIfInBounds_toArray, List.set_cons_zero, List.set_cons_succ]; rfl)) (hJ2_3_6 (v143) _ ⟨(by (with_reducible repeat (first | apply Kd.R_alloc | apply Kd.R_drewN | apply Kd.R_drew)); exact HO144.out), (by repeat (first | (with_reducible first | exact HB.out | apply below_alloc | apply pw_below_drewN | apply below_drew1) | exact HB.out))⟩)
                                    · skip
                                      refine goes_ Tryd.func21 (by kernel_rfl) rfl #[.int .u64 a2] (by rfl) rfl rfl (by (try simp only [List.map_toArray, List.map_cons, List.map_nil]); first | done | rfl | (simp only [List.length_drop, List.length_take]; rfl)) ?_
                                      with_reducible refine (holtref1_L8.calls k a2 t146 _ A11.out).mono ?_
                                      rintro e w30 ⟨rfl, hb⟩
                                      refine ⟨_, rfl, ?_⟩
                                      have n0_ := Aside0.mk (Kd.R_below (by (with_reducible repeat (first | apply Kd.R_alloc | apply Kd.R_drewN | apply Kd.R_drew)); exact HO144.out) hb)
                                      have n1_ := Aside0.mk (below_step (by repeat (first | (with_reducible first | exact HB.out | apply below_alloc | apply pw_below_drewN | apply below_drew1) | exact HB.out)) hb)
                                      clear HO144
                                      clear HB
                                      have HO144 := n0_
                                      have HB := n1_
                                      clear n0_ n1_
                                      (try clear hb)
                                      (try clear hb2)
                                      (try clear hk)
                                      (try clear hi)
                                      refine hK.out _ _ trivial (fun hHeld => ?_)
                                      clear hK K
                                      refine norm_ (a' := ?_) ?_ ?_
                                      rotate_left
                                      · show Act.put _ (some 27) _ = _
                                        simp only [Act.put, List.setIfInBounds_toArray, List.set_cons_zero, List.set_cons_succ, i64_w, i32_w]
                                        rfl
                                      exact norm_ (by first | (simp only [putAll, Act.put, List.setIfInBounds_toArray, List.set_cons_zero, List.set_cons_succ]; done) | (simp only [putAll, Act.put, List.setIfInBounds_toArray, List.set_cons_zero, List.set_cons_succ]; rfl)) (hJ2_6_9 (v143) _ ⟨(by (with_reducible repeat (first | apply Kd.R_alloc | apply Kd.R_drewN | apply Kd.R_drew)); exact HO144.out), (by repeat (first | (with_reducible first | exact HB.out | apply below_alloc | apply pw_below_drewN | apply below_drew1) | exact HB.out))⟩)
                                · skip
                                  rintro v143 w29 ⟨h0_, h1_⟩
                                  have n0_ : Aside0 (Kd.R (Kd.int .u8) 5 w29 w.heap.size (fun _ => True) v143 y142) := ⟨h0_⟩
                                  have n1_ : Aside0 (Below w.heap.size w w29) := ⟨h1_⟩
                                  clear HB
                                  clear h0_ h1_
                                  have HO144 := n0_
                                  have HB := n1_
                                  clear n0_ n1_
                                  have hHeld := trivial
                                  refine norm_ (a' := ?_) ?_ ?_
                                  rotate_left
                                  · simp only [putAll, Act.put, List.setIfInBounds_toArray, List.set_cons_zero, List.set_cons_succ]
                                    rfl
                                  refine one_ (i := 6) (N := some 24) #[true, true, true, true, true, true, true, false, true, false, false, false] rfl rfl (one_of HT_.out (by kernel_rfl)) (by decide) (fun K hK => ?_)
                                  refine goes_ Tryd.func21 (by kernel_rfl) rfl #[.int .u64 a1] (by rfl) rfl rfl (by (try simp only [List.map_toArray, List.map_cons, List.map_nil]); first | done | rfl | (simp only [List.length_drop, List.length_take]; rfl)) ?_
                                  with_reducible refine (holtref1_L8.calls k a1 t145 _ A9.out).mono ?_
                                  rintro e w30 ⟨rfl, hb⟩
                                  refine ⟨_, rfl, ?_⟩
                                  have n0_ := Aside0.mk (Kd.R_below (by (with_reducible repeat (first | apply Kd.R_alloc | apply Kd.R_drewN | apply Kd.R_drew)); exact HO144.out) hb)
                                  have n1_ := Aside0.mk (below_step (by repeat (first | (with_reducible first | exact HB.out | apply below_alloc | apply pw_below_drewN | apply below_drew1) | exact HB.out)) hb)
                                  clear HO144
                                  clear HB
                                  have HO144 := n0_
                                  have HB := n1_
                                  clear n0_ n1_
                                  (try clear hb)
                                  (try clear hb2)
                                  (try clear hk)
                                  (try clear hi)
                                  refine hK.out _ _ trivial (fun hHeld => ?_)
                                  clear hK K
                                  refine norm_ (a' := ?_) ?_ ?_
                                  rotate_left
                                  · show Act.put _ (some 24) _ = _
                                    simp only [Act.put, List.setIfInBounds_toArray, List.set_cons_zero, List.set_cons_succ, i64_w, i32_w]
                                    rfl
                                  refine pure_ (i := 7) (N := some 25) (v := ?_) (a' := ?_) #[true, true, true, true, true, true, true, true, true, false, false, false] rfl rfl (any_of HT_.out (by kernel_rfl)) (fun _ _ _ h => h) (Or.inl ⟨by rfl, ?_⟩) ?_ ?_
                                  rotate_left
                                  · intro w'
                                    go_simp
                                    with_reducible rfl
                                  rotate_left
                                  · simp only [Act.put, List.setIfInBounds_toArray, List.set_cons_zero, List.set_cons_succ, i64_w, i32_w]
                                    rfl
                                  exact norm_ (by first | (simp only [putAll, Act.put, List.setIfInBounds_toArray, List.set_cons_zero, List.set_cons_succ]; done) | (simp only [putAll, Act.put, List.setIfInBounds_toArray, List.set_cons_zero, List.set_cons_succ]; rfl)) (hJ2_3_6 (v143) _ ⟨(by (with_reducible repeat (first | apply Kd.R_alloc | apply Kd.R_drewN | apply Kd.R_drew)); exact HO144.out), (by repeat (first | (with_reducible first | exact HB.out | apply below_alloc | apply pw_below_drewN | apply below_drew1) | exact HB.out))⟩)
                              · skip
                                rintro v143 w30 ⟨h0_, h1_⟩
                                have n0_ : Aside0 (Kd.R (Kd.int .u8) 5 w30 w.heap.size (fun _ => True) v143 y142) := ⟨h0_⟩
                                have n1_ : Aside0 (Below w.heap.size w w30) := ⟨h1_⟩
                                clear HB
                                clear h0_ h1_
                                have HO144 := n0_
                                have HB := n1_
                                clear n0_ n1_
                                have hHeld := trivial
                                refine norm_ (a' := ?_) ?_ ?_
                                rotate_left
                                · simp only [putAll, Act.put, List.setIfInBounds_toArray, List.set_cons_zero, List.set_cons_succ]
                                  rfl
                                refine one_ (i := 3) (N := some 21) #[true, true, true, true, false, true, true, false, true, true, false, false] rfl rfl (one_of HT_.out (by kernel_rfl)) (by decide) (fun K hK => ?_)
                                have hcv31 := own_string (P := Tryd.prog) Tryd.underlying63 Tryd.underlying5 Tryd.underlying9 (Kd.own_of_R HO144.out)
                                refine value_ (w1 := ?_) (v := ?_) (by rfl) rfl ?_ ?_
                                rotate_left 2
                                · go_simp
                                  constructor
                                  · rfl
                                  · rfl
                                clear hcv31
                                refine hK.out _ _ trivial (fun hHeld => ?_)
                                clear hK K
                                refine norm_ (a' := ?_) ?_ ?_
                                rotate_left
                                · show Act.put _ (some 21) _ = _
                                  simp only [Act.put, List.setIfInBounds_toArray, List.set_cons_zero, List.set_cons_succ, i64_w, i32_w]
                                  rfl
                                refine pure_ (i := 4) (N := some 22) (v := ?_) (a' := ?_) #[true, true, true, true, true, true, true, false, true, true, false, false] rfl rfl (any_of HT_.out (by kernel_rfl)) (fun _ _ _ h => h) (Or.inl ⟨by rfl, ?_⟩) ?_ ?_
                                rotate_left
                                · intro w'
                                  go_simp
                                  with_reducible rfl
                                rotate_left
                                · simp only [Act.put, List.setIfInBounds_toArray, List.set_cons_zero, List.set_cons_succ, i64_w, i32_w]
                                  rfl
                                refine pure_ (i := 7) (N := some 25) (v := ?_) (a' := ?_) #[true, true, true, true, true, true, true, true, true, true, false, false] rfl rfl (any_of HT_.out (by kernel_rfl)) (fun _ _ _ h => h) (Or.inl ⟨by rfl, ?_⟩) ?_ ?_
                                rotate_left
                                · intro w'
                                  go_simp
                                  with_reducible rfl
                                rotate_left
                                · simp only [Act.put, List.setIfInBounds_toArray, List.set_cons_zero, List.set_cons_succ, i64_w, i32_w]
                                  rfl
                                exact norm_ (by first | (simp only [putAll, Act.put, List.setIfInBounds_toArray, List.set_cons_zero, List.set_cons_succ]; done) | (simp only [putAll, Act.put, List.setIfInBounds_toArray, List.set_cons_zero, List.set_cons_succ]; rfl)) (hJ2_3_6_9 (v143) _ ⟨(by (with_reducible repeat (first | apply Kd.R_alloc | apply Kd.R_drewN | apply Kd.R_drew)); exact HO144.out), (by repeat (first | (with_reducible first | exact HB.out | apply below_alloc | apply pw_below_drewN | apply below_drew1) | exact HB.out))⟩)
                            · skip
                              rintro v143 w30 ⟨h0_, h1_⟩
                              have n0_ : Aside0 (Kd.R (Kd.int .u8) 5 w30 w.heap.size (fun _ => True) v143 y142) := ⟨h0_⟩
                              have n1_ : Aside0 (Below w.heap.size w w30) := ⟨h1_⟩
                              clear HB
                              clear h0_ h1_
                              have HO144 := n0_
                              have HB := n1_
                              clear n0_ n1_
                              have hHeld := trivial
                              refine norm_ (a' := ?_) ?_ ?_
                              rotate_left
                              · simp only [putAll, Act.put, List.setIfInBounds_toArray, List.set_cons_zero, List.set_cons_succ]
                                rfl
                              refine one_ (i := 9) (N := some 27) #[true, true, true, true, true, true, true, true, true, true, false, false] rfl rfl (one_of HT_.out (by kernel_rfl)) (by decide) (fun K hK => ?_)
                              refine goes_ Tryd.func21 (by kernel_rfl) rfl #[.int .u64 a2] (by rfl) rfl rfl (by (try simp only [List.map_toArray, List.map_cons, List.map_nil]); first | done | rfl | (simp only [List.length_drop, List.length_take]; rfl)) ?_
                              with_reducible refine (holtref1_L8.calls k a2 t146 _ A11.out).mono ?_
                              rintro e w31 ⟨rfl, hb⟩
                              refine ⟨_, rfl, ?_⟩
                              have n0_ := Aside0.mk (Kd.R_below (by (with_reducible repeat (first | apply Kd.R_alloc | apply Kd.R_drewN | apply Kd.R_drew)); exact HO144.out) hb)
                              have n1_ := Aside0.mk (below_step (by repeat (first | (with_reducible first | exact HB.out | apply below_alloc | apply pw_below_drewN | apply below_drew1) | exact HB.out)) hb)
                              clear HO144
                              clear HB
                              have HO144 := n0_
                              have HB := n1_
                              clear n0_ n1_
                              (try clear hb)
                              (try clear hb2)
                              (try clear hk)
                              (try clear hi)
                              refine hK.out _ _ trivial (fun hHeld => ?_)
                              clear hK K
                              refine norm_ (a' := ?_) ?_ ?_
                              rotate_left
                              · show Act.put _ (some 27) _ = _
                                simp only [Act.put, List.setIfInBounds_toArray, List.set_cons_zero, List.set_cons_succ, i64_w, i32_w]
                                rfl
                              exact norm_ (by first | (simp only [putAll, Act.put, List.setIfInBounds_toArray, List.set_cons_zero, List.set_cons_succ]; done) | (simp only [putAll, Act.put, List.setIfInBounds_toArray, List.set_cons_zero, List.set_cons_succ]; rfl)) (hJ2_3_6_9 (v143) _ ⟨(by (with_reducible repeat (first | apply Kd.R_alloc | apply Kd.R_drewN | apply Kd.R_drew)); exact HO144.out), (by repeat (first | (with_reducible first | exact HB.out | apply below_alloc | apply pw_below_drewN | apply below_drew1) | exact HB.out))⟩)
                          rintro v143 w31 ⟨h0_, h1_⟩
                          have n0_ : Aside0 (Kd.R (Kd.int .u8) 5 w31 w.heap.size (fun _ => True) v143 y142) := ⟨h0_⟩
                          have n1_ : Aside0 (Below w.heap.size w w31) := ⟨h1_⟩
                          clear HB
                          clear h0_ h1_
                          have HO144 := n0_
                          have HB := n1_
                          clear n0_ n1_
                          have hHeld := trivial
                          refine norm_ (a' := ?_) ?_ ?_
                          rotate_left
                          · simp only [putAll, Act.put, List.setIfInBounds_toArray, List.set_cons_zero, List.set_cons_succ]
                            rfl
                          refine pure_ (i := 10) (N := some 28) (v := ?_) (a' := ?_) #[true, true, true, true, true, true, true, true, true, true, true, false] rfl rfl (any_of HT_.out (by kernel_rfl)) (fun _ _ _ h => h) (Or.inl ⟨by rfl, ?_⟩) ?_ ?_
                          rotate_left
                          · intro w'
                            go_simp
                            with_reducible rfl
                          rotate_left
                          · simp only [Act.put, List.setIfInBounds_toArray, List.set_cons_zero, List.set_cons_succ, i64_w, i32_w]
                            rfl
                          refine pure_ (i := 11) (N := some 10) (v := ?_) (a' := ?_) #[true, true, true, true, true, true, true, true, true, true, true, true] rfl rfl (any_of HT_.out (by kernel_rfl)) (fun _ _ _ h => h) (Or.inl ⟨by rfl, ?_⟩) ?_ ?_
                          rotate_left
                          · intro w'
                            go_simp
                            with_reducible rfl
                          rotate_left
                          · simp only [Act.put, List.setIfInBounds_toArray, List.set_cons_zero, List.set_cons_succ, i64_w, i32_w]
                            rfl
                          refine done_ (done_of HT_.out (by kernel_rfl)) ?_
                          try go_wp2_with (first | ((with_reducible refine gate_dst (N := 33) rfl ?_); refine Kd.R_make (Kd.int .u8) _ 5 rfl (N := 33) rfl 63 _ _ rfl ji13 rfl rfl Tryd.underlying63 (.int .u8 0) 1 info5 rfl (by decide) (by omega) 0 (ok := fun _ => True) (okp := fun _ => True) rfl (fun _ hk => hk) trivial (of_decide_eq_true (by first | (with_reducible assumption) | assumption)) (Nat.le_trans (Nat.mul_le_mul_right _ (of_decide_eq_true (by first | (with_reducible assumption) | assumption) : ji13.toNat ≤ 281474976710656)) (by omega)) (Below.refl _ _) (Nat.le_refl _) ?_; intro v148 w32 ho33 hb hg_ hnew_; clear hg_ hnew_; (first | rw [← Ny147.out] at ho33 | (simp only [Int.reduceToNat] at ho33; rw [← Ny147.out] at ho33)); have n0_ := Aside0.mk (Kd.R_elder' (by (with_reducible repeat (first | apply Kd.R_alloc | apply Kd.R_drewN | apply Kd.R_drew)); exact HO144.out) (Kd.R_base ho33) hb); have n1_ := Aside0.mk (Kd.R_lower (Kd.R_new' ho33 (Kd.R_lt (by (with_reducible repeat (first | apply Kd.R_alloc | apply Kd.R_drewN | apply Kd.R_drew)); exact HO144.out))) (below_size (by repeat (first | (with_reducible first | exact HB.out | apply below_alloc | apply pw_below_drewN | apply below_drew1) | exact HB.out)))); have n2_ := Aside0.mk (below_step (by repeat (first | (with_reducible first | exact HB.out | apply below_alloc | apply pw_below_drewN | apply below_drew1) | exact HB.out)) hb); clear HO144; clear HB; have HO144 := n0_; have HO149 := n1_; have HB := n2_; clear n0_ n1_ n2_; clear hb ho33; have hcv34 := own_string (P := Tryd.prog) Tryd.underlying63 Tryd.underlying5 Tryd.underlying9 (Kd.own_of_R HO149.out)) | ((with_reducible refine gate_callee (f := 21) rfl ?_); refine goesL_ (some 38) rfl rfl Tryd.func21 (by kernel_rfl) rfl #[.int .u64 0] rfl (by (try simp only [List.map_toArray, List.map_cons, List.map_nil]); first | done | rfl | (simp only [List.length_drop, List.length_take]; rfl) | ((try simp only [decide_eq_false_iff_not, decide_eq_true_eq] at *); refine congrArg List.toArray ?_; (repeat' (first | with_reducible rfl | refine List.cons_eq_cons.2 ⟨?_, ?_⟩)); all_goals (first | rfl | (refine congrArg (Value.int _) ?_; unfold Go.RowKit.wrap64; omega)))) ?_; (with_reducible refine (holtref1_L8.calls k 0 t150 _ A17.out).mono ?_); rintro e w35 ⟨rfl, hb⟩; refine ⟨_, rfl, ?_⟩; have n0_ := Aside0.mk (Kd.R_below (by (with_reducible repeat (first | apply Kd.R_alloc | apply Kd.R_drewN | apply Kd.R_drew)); exact HO144.out) hb); have n1_ := Aside0.mk (Kd.R_below (by (with_reducible repeat (first | apply Kd.R_alloc | apply Kd.R_drewN | apply Kd.R_drew)); exact HO149.out) hb); have n2_ := Aside0.mk (below_step (by repeat (first | (with_reducible first | exact HB.out | apply below_alloc | apply pw_below_drewN | apply below_drew1) | exact HB.out)) hb); clear HO144; clear HO149; clear HB; have HO144 := n0_; have HO149 := n1_; have HB := n2_; clear n0_ n1_ n2_; (try clear hb); (try clear hb2); (try clear hk); (try clear hi)) | ((with_reducible refine gate_callee (f := 27) rfl ?_); refine goesL_ (some 42) rfl rfl Tryd.func27 (by kernel_rfl) rfl #[.string ((((((⟨#[72, 79, 76, 84]⟩ : ByteArray) ++ (strOfNums y142)) ++ t145) ++ t146) ++ t150) ++ (a3 ++ (strOfNums y147)))] rfl (by (try simp only [List.map_toArray, List.map_cons, List.map_nil]); first | done | rfl | (simp only [List.length_drop, List.length_take]; rfl) | ((try simp only [decide_eq_false_iff_not, decide_eq_true_eq] at *); refine congrArg List.toArray ?_; (repeat' (first | with_reducible rfl | refine List.cons_eq_cons.2 ⟨?_, ?_⟩)); all_goals (first | rfl | (refine congrArg (Value.int _) ?_; unfold Go.RowKit.wrap64; omega)))) ?_; (with_reducible refine (holtref2_Of.calls k ((((((⟨#[72, 79, 76, 84]⟩ : ByteArray) ++ (strOfNums y142)) ++ t145) ++ t146) ++ t150) ++ (a3 ++ (strOfNums y147))) t151 _ A20.out).mono ?_); rintro e w' ⟨rfl, ⟨nd, rfl⟩⟩; refine ⟨_, rfl, ?_⟩) | ((with_reducible refine gate_callee (f := 21) rfl ?_); refine goesL_ (some 43) rfl rfl Tryd.func21 (by kernel_rfl) rfl #[.int .u64 t151] rfl (by (try simp only [List.map_toArray, List.map_cons, List.map_nil]); first | done | rfl | (simp only [List.length_drop, List.length_take]; rfl) | ((try simp only [decide_eq_false_iff_not, decide_eq_true_eq] at *); refine congrArg List.toArray ?_; (repeat' (first | with_reducible rfl | refine List.cons_eq_cons.2 ⟨?_, ?_⟩)); all_goals (first | rfl | (refine congrArg (Value.int _) ?_; unfold Go.RowKit.wrap64; omega)))) ?_; (with_reducible refine (holtref1_L8.calls k t151 t152 _ A21.out).mono ?_); rintro e w36 ⟨rfl, hb⟩; refine ⟨_, rfl, ?_⟩; have n0_ := Aside0.mk (Kd.R_below (by (with_reducible repeat (first | apply Kd.R_alloc | apply Kd.R_drewN | apply Kd.R_drew)); exact HO144.out) hb); have n1_ := Aside0.mk (Kd.R_below (by (with_reducible repeat (first | apply Kd.R_alloc | apply Kd.R_drewN | apply Kd.R_drew)); exact HO149.out) hb); have n2_ := Aside0.mk (below_step (by repeat (first | (with_reducible first | exact HB.out | apply below_alloc | apply pw_below_drewN | apply below_drew1) | exact HB.out)) hb); clear HO144; clear HO149; clear HB; have HO144 := n0_; have HO149 := n1_; have HB := n2_; clear n0_ n1_ n2_; (try clear hb); (try clear hb2); (try clear hk); (try clear hi)))
                          go_ret2
                          exact ⟨by first | rfl | (simp [errW_none, errW_some] <;> rfl) | (simp only [← hji13]; first | rfl | (simp [errW_none, errW_some] <;> rfl)) | (simp [*, errW_none, errW_some] <;> rfl), by repeat (first | (with_reducible first | exact HB.out | apply below_alloc | apply pw_below_drewN | apply below_drew1) | exact HB.out)⟩
                        · rw [if_neg c23] at H
                          exact absurd H (by simp)
                      · rw [if_neg c22] at H
                        exact absurd H (by simp)
                    · rw [if_neg c19] at H
                      exact absurd H (by simp)
                  · rw [if_neg c18] at H
                    exact absurd H (by simp)
                · rw [if_neg c16] at H
                  exact absurd H (by simp)
              · rw [if_neg c15] at H
                exact absurd H (by simp)
            · rw [if_neg c14] at H
              exact absurd H (by simp)
          · rw [if_neg c12] at H
            exact absurd H (by simp)
        · rw [if_neg c10] at H
          exact absurd H (by simp)
      · rw [if_neg c8] at H
        exact absurd H (by simp)
  · replace c6 := Bool.eq_false_iff.mpr c6
    subst c6
    have H1 : (some ((⟨#[]⟩ : ByteArray), 400)) = some (r1, r2) := by rw [if_neg (show ¬ (false = true) by decide)] at H; exact H
    clear H
    have H := H1
    clear H1
    simp only [Option.some.injEq, Prod.mk.injEq] at H
    obtain ⟨rfl, rfl⟩ := H
    go_enter Tryd.func20, Tryd.ntmps20
    go_wp2_with (first | ((with_reducible refine gate_callee (f := 26) rfl ?_); refine goesL_ (some 13) rfl rfl Tryd.func26 (by kernel_rfl) rfl #[.int .i64 a0] rfl (by (try simp only [List.map_toArray, List.map_cons, List.map_nil]); first | done | rfl | (simp only [List.length_drop, List.length_take]; rfl) | ((try simp only [decide_eq_false_iff_not, decide_eq_true_eq] at *); refine congrArg List.toArray ?_; (repeat' (first | with_reducible rfl | refine List.cons_eq_cons.2 ⟨?_, ?_⟩)); all_goals (first | rfl | (refine congrArg (Value.int _) ?_; unfold Go.RowKit.wrap64; omega)))) ?_; (with_reducible refine (holtref4_kind.calls a0 false _ A5.out).mono ?_); rintro e w' ⟨rfl, ⟨nd, rfl⟩⟩; refine ⟨_, rfl, ?_⟩))
    go_ret2
    exact ⟨by first | rfl | (simp [errW_none, errW_some] <;> rfl) | (simp [*, errW_none, errW_some] <;> rfl), by repeat (first | (with_reducible first | exact HB.out | apply below_alloc | apply pw_below_drewN | apply below_drew1) | exact HB.out)⟩

end Go.Proofs.YtlkjfjpcphlfeaaDoor.Q
