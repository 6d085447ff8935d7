-- Written by wip/ext.py, a program of this session, by way of the kit's printer: nothing in it is trusted: Lean checks it.
import Derived.Test.YtlkjfjpcphlfeaaQ0
import Derived.Test.YtlkjfjpcphlfeaaQ3
import Derived.Test.YtlkjfjpcphlfeaaQ4
import Derived.Test.YtlkjfjpcphlfeaaQ5
import Derived.Test.YtlkjfjpcphlfeaaQ7
namespace Go.Proofs.Ytlkjfjpcphlfeaa.Q
open Go.RowKit Go.Proofs.YtlkjfjpcphlfeaaW.PrintWords Go.Proofs.YtlkjfjpcphlfeaaW.PrintLast Go.Proofs.YtlkjfjpcphlfeaaW.PrintMore
attribute [local go_sem] max2_int min2_int max_two min_two max_three min_three max_four min_four   -- for this text's walks alone
set_option linter.unusedVariables false
set_option linter.unusedSimpArgs false

/-! ### holtlaw4_BlockOpens: function 4 -/
def holtlaw4_BlockOpens.f (k : Nat) (a0 : ByteArray) (a1 : Int) : Option (Bool) := (block_Open.f k a0 a1).bind fun bt188 => ((holtref4_Open.f k a0 a1).bind fun bt192 => (if bt188.1 = bt192.1 then (if bt188.2.1 = bt192.2.1 then (if bt188.2.2.1.toList = bt192.2.2.1.toList then ((holtlaw0_Num.f bt188.2.2.2).bind fun t196 => (if t196 = bt192.2.2.2 then ((holtlaw4_awake.f k).bind fun t197 => (some t197)) else (some false))) else (some false)) else (some false)) else (some false)))
theorem holtlaw4_BlockOpens.mono : ∀ a0 a1 k, LeO (holtlaw4_BlockOpens.f k a0 a1) (holtlaw4_BlockOpens.f (k + 1) a0 a1) := by
  intro a0 a1 k
  unfold holtlaw4_BlockOpens.f
  repeat' first
      | (with_reducible exact block_Open.mono _ _ _)
      | (with_reducible exact holtlaw4_awake.mono _)
      | (with_reducible exact holtref4_Open.mono _ _ _)
      | (with_reducible exact LeO.refl _)
      | (with_reducible exact LeO.none _)
      | (with_reducible refine LeO.ite ?_ ?_)
      | (with_reducible refine LeO.bind ?_ (fun _ => ?_))
      | exact block_Open.mono _ _ _
      | exact holtlaw4_awake.mono _
      | exact holtref4_Open.mono _ _ _
      | exact LeO.none _
      | refine LeO.ite ?_ ?_
      | refine LeO.bind ?_ (fun _ => ?_)
set_option maxHeartbeats 8000000 in
set_option maxRecDepth 100000 in
theorem holtlaw4_BlockOpens.calls (k : Nat) (a0 : ByteArray) (a1 : Int) (r : Bool) (w : World) (h : holtlaw4_BlockOpens.f k a0 a1 = some r) :
    Calls Try.prog 4 #[.string a0, .int .u64 a1] w fun e w' => e = .returned (.bool r) ∧ Below w.heap.size w w' := by
  have HB := Aside0.mk (Below.refl w.heap.size w)
  have H : ((block_Open.f k a0 a1).bind fun bt188 => ((holtref4_Open.f k a0 a1).bind fun bt192 => (if bt188.1 = bt192.1 then (if bt188.2.1 = bt192.2.1 then (if bt188.2.2.1.toList = bt192.2.2.1.toList then ((holtlaw0_Num.f bt188.2.2.2).bind fun t196 => (if t196 = bt192.2.2.2 then ((holtlaw4_awake.f k).bind fun t197 => (some t197)) else (some false))) else (some false)) else (some false)) else (some false)))) = some r := h
  clear h
  replace H := Option.bind_eq_some_iff.mp H
  obtain ⟨⟨t188, t189, t190, t191⟩, A30, H⟩ := H
  replace H : ((holtref4_Open.f k a0 a1).bind fun bt192 => (if t188 = bt192.1 then (if t189 = bt192.2.1 then (if t190.toList = bt192.2.2.1.toList then ((holtlaw0_Num.f t191).bind fun t196 => (if t196 = bt192.2.2.2 then ((holtlaw4_awake.f k).bind fun t197 => (some t197)) else (some false))) else (some false)) else (some false)) else (some false))) = some r := H
  have A3 := Aside0.mk A30
  clear A30
  replace H := Option.bind_eq_some_iff.mp H
  obtain ⟨⟨t192, t193, t194, t195⟩, A40, H⟩ := H
  replace H : (if t188 = t192 then (if t189 = t193 then (if t190.toList = t194.toList then ((holtlaw0_Num.f t191).bind fun t196 => (if t196 = t195 then ((holtlaw4_awake.f k).bind fun t197 => (some t197)) else (some false))) else (some false)) else (some false)) else (some false)) = some r := H
  have A4 := Aside0.mk A40
  clear A40
  by_cases c5 : t188 = t192
  · rw [if_pos c5] at H
    have c5b0 : (t188 == t192) = true := beq_iff_eq.mpr c5
    have c5b1 : (t188 != t192) = false := bne_eq_false_iff_eq.mpr c5
    clear c5
    by_cases c6 : t189 = t193
    · rw [if_pos c6] at H
      have c6b0 : (t189 == t193) = true := beq_iff_eq.mpr c6
      have c6b1 : (t189 != t193) = false := bne_eq_false_iff_eq.mpr c6
      clear c6
      by_cases c7 : t190.toList = t194.toList
      · rw [if_pos c7] at H
        have c7b0 : (t190.toList == t194.toList) = true := beq_iff_eq.mpr c7
        have c7b1 : (t190.toList != t194.toList) = false := bne_eq_false_iff_eq.mpr c7
        clear c7
        replace H := Option.bind_eq_some_iff.mp H
        obtain ⟨t196, A80, H⟩ := H
        replace H : (if t196 = t195 then ((holtlaw4_awake.f k).bind fun t197 => (some t197)) else (some false)) = some r := H
        have A8 := Aside0.mk A80
        clear A80
        by_cases c9 : t196 = t195
        · rw [if_pos c9] at H
          have c9b0 : (t196 == t195) = true := beq_iff_eq.mpr c9
          have c9b1 : (t196 != t195) = false := bne_eq_false_iff_eq.mpr c9
          clear c9
          replace H := Option.bind_eq_some_iff.mp H
          obtain ⟨t197, A100, H⟩ := H
          replace H : (some t197) = some r := H
          have A10 := Aside0.mk A100
          clear A100
          obtain rfl := Option.some.inj H
          go_enter Try.func4, Try.ntmps4
          go_wp2_with (first | ((with_reducible refine gate_callee (f := 10) rfl ?_); refine goesL_ (some 16) rfl rfl Try.func10 (by kernel_rfl) rfl #[.string a0, .int .u64 a1] rfl (by (try simp only [List.map_toArray, List.map_cons, List.map_nil]); first | done | rfl | (simp only [List.length_drop, List.length_take]; rfl) | ((try simp only [decide_eq_false_iff_not, decide_eq_true_eq] at *); refine congrArg List.toArray ?_; (repeat' (first | with_reducible rfl | refine List.cons_eq_cons.2 ⟨?_, ?_⟩)); all_goals (first | rfl | (refine congrArg (Value.int _) ?_; unfold Go.RowKit.wrap64; omega)))) ?_; (with_reducible refine (block_Open.calls k a0 a1 t188 t189 t190 t191 _ A3.out).mono ?_); rintro e w11 ⟨rfl, hb⟩; refine ⟨_, rfl, ?_⟩; have n0_ := Aside0.mk (below_step (by repeat (first | (with_reducible first | exact HB.out | apply below_alloc | apply pw_below_drewN | apply below_drew1) | exact HB.out)) hb); clear HB; have HB := n0_; clear n0_; (try clear hb); (try clear hb2); (try clear hk); (try clear hi)) | ((with_reducible refine gate_callee (f := 11) rfl ?_); refine goesL_ (some 24) rfl rfl Try.func11 (by kernel_rfl) rfl #[.string a0, .int .u64 a1] rfl (by (try simp only [List.map_toArray, List.map_cons, List.map_nil]); first | done | rfl | (simp only [List.length_drop, List.length_take]; rfl) | ((try simp only [decide_eq_false_iff_not, decide_eq_true_eq] at *); refine congrArg List.toArray ?_; (repeat' (first | with_reducible rfl | refine List.cons_eq_cons.2 ⟨?_, ?_⟩)); all_goals (first | rfl | (refine congrArg (Value.int _) ?_; unfold Go.RowKit.wrap64; omega)))) ?_; (with_reducible refine (holtref4_Open.calls k a0 a1 t192 t193 t194 t195 _ A4.out).mono ?_); rintro e w12 ⟨rfl, hb⟩; refine ⟨_, rfl, ?_⟩; have n0_ := Aside0.mk (below_step (by repeat (first | (with_reducible first | exact HB.out | apply below_alloc | apply pw_below_drewN | apply below_drew1) | exact HB.out)) hb); clear HB; have HB := n0_; clear n0_; (try clear hb); (try clear hb2); (try clear hk); (try clear hi)) | (go_at_call 8; (with_reducible refine (holtlaw0_Num.calls t191 t196 _ A8.out).mono ?_); rintro e w' ⟨rfl, ⟨nd, rfl⟩⟩) | (go_at_call 9; (with_reducible refine (holtlaw4_awake.calls k  t197 _ A10.out).mono ?_); rintro e w13 ⟨rfl, hb⟩; have n0_ := Aside0.mk (below_step (by repeat (first | (with_reducible first | exact HB.out | apply below_alloc | apply pw_below_drewN | apply below_drew1) | exact HB.out)) hb); clear HB; have HB := n0_; clear n0_; (try clear hb); (try clear hb2); (try clear hk); (try clear hi)))
          go_ret
          exact ⟨by first | rfl | (simp [errW_none, errW_some] <;> rfl) | (simp [*, errW_none, errW_some] <;> rfl), by repeat (first | (with_reducible first | exact HB.out | apply below_alloc | apply pw_below_drewN | apply below_drew1) | exact HB.out)⟩
        · rw [if_neg c9] at H
          have c9b0 : (t196 == t195) = false := beq_eq_false_iff_ne.mpr c9
          have c9b1 : (t196 != t195) = true := bne_iff_ne.mpr c9
          obtain rfl := Option.some.inj H
          go_enter Try.func4, Try.ntmps4
          go_wp2_with (first | ((with_reducible refine gate_callee (f := 10) rfl ?_); refine goesL_ (some 16) rfl rfl Try.func10 (by kernel_rfl) rfl #[.string a0, .int .u64 a1] rfl (by (try simp only [List.map_toArray, List.map_cons, List.map_nil]); first | done | rfl | (simp only [List.length_drop, List.length_take]; rfl) | ((try simp only [decide_eq_false_iff_not, decide_eq_true_eq] at *); refine congrArg List.toArray ?_; (repeat' (first | with_reducible rfl | refine List.cons_eq_cons.2 ⟨?_, ?_⟩)); all_goals (first | rfl | (refine congrArg (Value.int _) ?_; unfold Go.RowKit.wrap64; omega)))) ?_; (with_reducible refine (block_Open.calls k a0 a1 t188 t189 t190 t191 _ A3.out).mono ?_); rintro e w14 ⟨rfl, hb⟩; refine ⟨_, rfl, ?_⟩; have n0_ := Aside0.mk (below_step (by repeat (first | (with_reducible first | exact HB.out | apply below_alloc | apply pw_below_drewN | apply below_drew1) | exact HB.out)) hb); clear HB; have HB := n0_; clear n0_; (try clear hb); (try clear hb2); (try clear hk); (try clear hi)) | ((with_reducible refine gate_callee (f := 11) rfl ?_); refine goesL_ (some 24) rfl rfl Try.func11 (by kernel_rfl) rfl #[.string a0, .int .u64 a1] rfl (by (try simp only [List.map_toArray, List.map_cons, List.map_nil]); first | done | rfl | (simp only [List.length_drop, List.length_take]; rfl) | ((try simp only [decide_eq_false_iff_not, decide_eq_true_eq] at *); refine congrArg List.toArray ?_; (repeat' (first | with_reducible rfl | refine List.cons_eq_cons.2 ⟨?_, ?_⟩)); all_goals (first | rfl | (refine congrArg (Value.int _) ?_; unfold Go.RowKit.wrap64; omega)))) ?_; (with_reducible refine (holtref4_Open.calls k a0 a1 t192 t193 t194 t195 _ A4.out).mono ?_); rintro e w15 ⟨rfl, hb⟩; refine ⟨_, rfl, ?_⟩; have n0_ := Aside0.mk (below_step (by repeat (first | (with_reducible first | exact HB.out | apply below_alloc | apply pw_below_drewN | apply below_drew1) | exact HB.out)) hb); clear HB; have HB := n0_; clear n0_; (try clear hb); (try clear hb2); (try clear hk); (try clear hi)) | (go_at_call 8; (with_reducible refine (holtlaw0_Num.calls t191 t196 _ A8.out).mono ?_); rintro e w' ⟨rfl, ⟨nd, rfl⟩⟩))
          go_ret
          exact ⟨by first | rfl | (simp [errW_none, errW_some] <;> rfl) | (simp [*, errW_none, errW_some] <;> rfl), by repeat (first | (with_reducible first | exact HB.out | apply below_alloc | apply pw_below_drewN | apply below_drew1) | exact HB.out)⟩
      · rw [if_neg c7] at H
        have c7b0 : (t190.toList == t194.toList) = false := beq_eq_false_iff_ne.mpr c7
        have c7b1 : (t190.toList != t194.toList) = true := bne_iff_ne.mpr c7
        obtain rfl := Option.some.inj H
        go_enter Try.func4, Try.ntmps4
        go_wp2_with (first | ((with_reducible refine gate_callee (f := 10) rfl ?_); refine goesL_ (some 16) rfl rfl Try.func10 (by kernel_rfl) rfl #[.string a0, .int .u64 a1] rfl (by (try simp only [List.map_toArray, List.map_cons, List.map_nil]); first | done | rfl | (simp only [List.length_drop, List.length_take]; rfl) | ((try simp only [decide_eq_false_iff_not, decide_eq_true_eq] at *); refine congrArg List.toArray ?_; (repeat' (first | with_reducible rfl | refine List.cons_eq_cons.2 ⟨?_, ?_⟩)); all_goals (first | rfl | (refine congrArg (Value.int _) ?_; unfold Go.RowKit.wrap64; omega)))) ?_; (with_reducible refine (block_Open.calls k a0 a1 t188 t189 t190 t191 _ A3.out).mono ?_); rintro e w16 ⟨rfl, hb⟩; refine ⟨_, rfl, ?_⟩; have n0_ := Aside0.mk (below_step (by repeat (first | (with_reducible first | exact HB.out | apply below_alloc | apply pw_below_drewN | apply below_drew1) | exact HB.out)) hb); clear HB; have HB := n0_; clear n0_; (try clear hb); (try clear hb2); (try clear hk); (try clear hi)) | ((with_reducible refine gate_callee (f := 11) rfl ?_); refine goesL_ (some 24) rfl rfl Try.func11 (by kernel_rfl) rfl #[.string a0, .int .u64 a1] rfl (by (try simp only [List.map_toArray, List.map_cons, List.map_nil]); first | done | rfl | (simp only [List.length_drop, List.length_take]; rfl) | ((try simp only [decide_eq_false_iff_not, decide_eq_true_eq] at *); refine congrArg List.toArray ?_; (repeat' (first | with_reducible rfl | refine List.cons_eq_cons.2 ⟨?_, ?_⟩)); all_goals (first | rfl | (refine congrArg (Value.int _) ?_; unfold Go.RowKit.wrap64; omega)))) ?_; (with_reducible refine (holtref4_Open.calls k a0 a1 t192 t193 t194 t195 _ A4.out).mono ?_); rintro e w17 ⟨rfl, hb⟩; refine ⟨_, rfl, ?_⟩; have n0_ := Aside0.mk (below_step (by repeat (first | (with_reducible first | exact HB.out | apply below_alloc | apply pw_below_drewN | apply below_drew1) | exact HB.out)) hb); clear HB; have HB := n0_; clear n0_; (try clear hb); (try clear hb2); (try clear hk); (try clear hi)))
        go_ret
        exact ⟨by first | rfl | (simp [errW_none, errW_some] <;> rfl) | (simp [*, errW_none, errW_some] <;> rfl), by repeat (first | (with_reducible first | exact HB.out | apply below_alloc | apply pw_below_drewN | apply below_drew1) | exact HB.out)⟩
    · rw [if_neg c6] at H
      have c6b0 : (t189 == t193) = false := beq_eq_false_iff_ne.mpr c6
      have c6b1 : (t189 != t193) = true := bne_iff_ne.mpr c6
      obtain rfl := Option.some.inj H
      go_enter Try.func4, Try.ntmps4
      go_wp2_with (first | ((with_reducible refine gate_callee (f := 10) rfl ?_); refine goesL_ (some 16) rfl rfl Try.func10 (by kernel_rfl) rfl #[.string a0, .int .u64 a1] rfl (by (try simp only [List.map_toArray, List.map_cons, List.map_nil]); first | done | rfl | (simp only [List.length_drop, List.length_take]; rfl) | ((try simp only [decide_eq_false_iff_not, decide_eq_true_eq] at *); refine congrArg List.toArray ?_; (repeat' (first | with_reducible rfl | refine List.cons_eq_cons.2 ⟨?_, ?_⟩)); all_goals (first | rfl | (refine congrArg (Value.int _) ?_; unfold Go.RowKit.wrap64; omega)))) ?_; (with_reducible refine (block_Open.calls k a0 a1 t188 t189 t190 t191 _ A3.out).mono ?_); rintro e w18 ⟨rfl, hb⟩; refine ⟨_, rfl, ?_⟩; have n0_ := Aside0.mk (below_step (by repeat (first | (with_reducible first | exact HB.out | apply below_alloc | apply pw_below_drewN | apply below_drew1) | exact HB.out)) hb); clear HB; have HB := n0_; clear n0_; (try clear hb); (try clear hb2); (try clear hk); (try clear hi)) | ((with_reducible refine gate_callee (f := 11) rfl ?_); refine goesL_ (some 24) rfl rfl Try.func11 (by kernel_rfl) rfl #[.string a0, .int .u64 a1] rfl (by (try simp only [List.map_toArray, List.map_cons, List.map_nil]); first | done | rfl | (simp only [List.length_drop, List.length_take]; rfl) | ((try simp only [decide_eq_false_iff_not, decide_eq_true_eq] at *); refine congrArg List.toArray ?_; (repeat' (first | with_reducible rfl | refine List.cons_eq_cons.2 ⟨?_, ?_⟩)); all_goals (first | rfl | (refine congrArg (Value.int _) ?_; unfold Go.RowKit.wrap64; omega)))) ?_; (with_reducible refine (holtref4_Open.calls k a0 a1 t192 t193 t194 t195 _ A4.out).mono ?_); rintro e w19 ⟨rfl, hb⟩; refine ⟨_, rfl, ?_⟩; have n0_ := Aside0.mk (below_step (by repeat (first | (with_reducible first | exact HB.out | apply below_alloc | apply pw_below_drewN | apply below_drew1) | exact HB.out)) hb); clear HB; have HB := n0_; clear n0_; (try clear hb); (try clear hb2); (try clear hk); (try clear hi)))
      go_ret
      exact ⟨by first | rfl | (simp [errW_none, errW_some] <;> rfl) | (simp [*, errW_none, errW_some] <;> rfl), by repeat (first | (with_reducible first | exact HB.out | apply below_alloc | apply pw_below_drewN | apply below_drew1) | exact HB.out)⟩
  · rw [if_neg c5] at H
    have c5b0 : (t188 == t192) = false := beq_eq_false_iff_ne.mpr c5
    have c5b1 : (t188 != t192) = true := bne_iff_ne.mpr c5
    obtain rfl := Option.some.inj H
    go_enter Try.func4, Try.ntmps4
    go_wp2_with (first | ((with_reducible refine gate_callee (f := 10) rfl ?_); refine goesL_ (some 16) rfl rfl Try.func10 (by kernel_rfl) rfl #[.string a0, .int .u64 a1] rfl (by (try simp only [List.map_toArray, List.map_cons, List.map_nil]); first | done | rfl | (simp only [List.length_drop, List.length_take]; rfl) | ((try simp only [decide_eq_false_iff_not, decide_eq_true_eq] at *); refine congrArg List.toArray ?_; (repeat' (first | with_reducible rfl | refine List.cons_eq_cons.2 ⟨?_, ?_⟩)); all_goals (first | rfl | (refine congrArg (Value.int _) ?_; unfold Go.RowKit.wrap64; omega)))) ?_; (with_reducible refine (block_Open.calls k a0 a1 t188 t189 t190 t191 _ A3.out).mono ?_); rintro e w20 ⟨rfl, hb⟩; refine ⟨_, rfl, ?_⟩; have n0_ := Aside0.mk (below_step (by repeat (first | (with_reducible first | exact HB.out | apply below_alloc | apply pw_below_drewN | apply below_drew1) | exact HB.out)) hb); clear HB; have HB := n0_; clear n0_; (try clear hb); (try clear hb2); (try clear hk); (try clear hi)) | ((with_reducible refine gate_callee (f := 11) rfl ?_); refine goesL_ (some 24) rfl rfl Try.func11 (by kernel_rfl) rfl #[.string a0, .int .u64 a1] rfl (by (try simp only [List.map_toArray, List.map_cons, List.map_nil]); first | done | rfl | (simp only [List.length_drop, List.length_take]; rfl) | ((try simp only [decide_eq_false_iff_not, decide_eq_true_eq] at *); refine congrArg List.toArray ?_; (repeat' (first | with_reducible rfl | refine List.cons_eq_cons.2 ⟨?_, ?_⟩)); all_goals (first | rfl | (refine congrArg (Value.int _) ?_; unfold Go.RowKit.wrap64; omega)))) ?_; (with_reducible refine (holtref4_Open.calls k a0 a1 t192 t193 t194 t195 _ A4.out).mono ?_); rintro e w21 ⟨rfl, hb⟩; refine ⟨_, rfl, ?_⟩; have n0_ := Aside0.mk (below_step (by repeat (first | (with_reducible first | exact HB.out | apply below_alloc | apply pw_below_drewN | apply below_drew1) | exact HB.out)) hb); clear HB; have HB := n0_; clear n0_; (try clear hb); (try clear hb2); (try clear hk); (try clear hi)))
    go_ret
    exact ⟨by first | rfl | (simp [errW_none, errW_some] <;> rfl) | (simp [*, errW_none, errW_some] <;> rfl), by repeat (first | (with_reducible first | exact HB.out | apply below_alloc | apply pw_below_drewN | apply below_drew1) | exact HB.out)⟩

/-- THE ONE PURE STATEMENT of holtlaw4_BlockOpens: yours. -/
def holtlaw4_BlockOpens.Pure : Prop := ∀ (a0 : ByteArray) (a1 : Int), a0.size ≤ 140737488351232 → (Lit.int .u64 a1).wf = true → ∃ k, holtlaw4_BlockOpens.f k a0 a1 = some true
theorem holtlaw4_BlockOpens.walk (P : holtlaw4_BlockOpens.Pure) (a0 : ByteArray) (a1 : Int) (w : World) (w0 : a0.size ≤ 140737488351232) (w1 : (Lit.int .u64 a1).wf = true) :
    Calls Try.prog 4 #[.string a0, .int .u64 a1] w fun e w' => e = .returned (.bool true) ∧ Below w.heap.size w w' := by
  obtain ⟨k, h⟩ := P a0 a1 w0 w1
  refine (holtlaw4_BlockOpens.calls k a0 a1 true w h).mono ?_
  rintro e w' ⟨rfl, hd⟩
  exact ⟨rfl, hd⟩

/-! ### holtlaw4_BlockBack: function 5 -/
mutual
def holtlaw4_BlockBack.j0 : Nat → Int → ByteArray → Int → Int → ByteArray → ByteArray → Bool → Option (Bool)
  | 0, _, _, _, _, _, _, _ => none
  | k + 1, x2, x3, x4, x5, x14, x18, x90 => if x90 = true then (some false) else (holtlaw4_BlockBack.l0 k x2 x4 x5 x14 x18 (x3.size : Int))
def holtlaw4_BlockBack.l0 : Nat → Int → Int → Int → ByteArray → ByteArray → Int → Option (Bool)
  | 0, _, _, _, _, _, _ => none
  | k + 1, x2, x4, x5, x14, x18, x20 => if x20 < (x18.size : Int) then (if 0 ≤ x20 then (if (bt x18 x20) = 0 then (holtlaw4_BlockBack.l0 k x2 x4 x5 x14 x18 (wrap64 (x20 + 1))) else (some false)) else (none)) else (if (IntKind.u64.wrap ((x14.size : Int))) = 0 then (none) else (if 0 ≤ (wrap64 (Int.tmod (IntKind.u64.wrap (x4)) (IntKind.u64.wrap ((x14.size : Int))))) then (if (wrap64 (Int.tmod (IntKind.u64.wrap (x4)) (IntKind.u64.wrap ((x14.size : Int))))) ≤ (x14.size : Int) then (if (wrap64 (Int.tmod (IntKind.u64.wrap (x4)) (IntKind.u64.wrap ((x14.size : Int))))) < (x14.size : Int) then ((some (([Go.bits .xor .u8 (bt x14 (wrap64 (Int.tmod (IntKind.u64.wrap (x4)) (IntKind.u64.wrap ((x14.size : Int)))))) ((IntKind.u64.wrap (1 + (Int.tmod (IntKind.u64.wrap (x5)) 255))) % 256)] : List Int) : List Int)).bind fun y208 => (if (x14.extract 0 ((wrap64 (Int.tmod (IntKind.u64.wrap (x4)) (IntKind.u64.wrap ((x14.size : Int))))) : Int).toNat).size + (strOfNums y208).size ≤ 9223372036854775807 then (if 0 ≤ (wrap64 ((wrap64 (Int.tmod (IntKind.u64.wrap (x4)) (IntKind.u64.wrap ((x14.size : Int))))) + 1)) then (if (wrap64 ((wrap64 (Int.tmod (IntKind.u64.wrap (x4)) (IntKind.u64.wrap ((x14.size : Int))))) + 1)) ≤ (x14.size : Int) then (if ((x14.extract 0 ((wrap64 (Int.tmod (IntKind.u64.wrap (x4)) (IntKind.u64.wrap ((x14.size : Int))))) : Int).toNat) ++ (strOfNums y208)).size + (x14.extract ((wrap64 ((wrap64 (Int.tmod (IntKind.u64.wrap (x4)) (IntKind.u64.wrap ((x14.size : Int))))) + 1)) : Int).toNat x14.size).size ≤ 9223372036854775807 then ((block_Open.f k (((x14.extract 0 ((wrap64 (Int.tmod (IntKind.u64.wrap (x4)) (IntKind.u64.wrap ((x14.size : Int))))) : Int).toNat) ++ (strOfNums y208)) ++ (x14.extract ((wrap64 ((wrap64 (Int.tmod (IntKind.u64.wrap (x4)) (IntKind.u64.wrap ((x14.size : Int))))) + 1)) : Int).toNat x14.size)) x2).bind fun bt211 => ((holtlaw0_Num.f bt211.2.2.2).bind fun t215 => (some (t215 != 0)))) else (none)) else (none)) else (none)) else (none))) else (none)) else (none)) else (none)))
end
def holtlaw4_BlockBack.f (k : Nat) (a0 : Int) (a1 : Int) (a2 : Int) (a3 : ByteArray) (a4 : Int) (a5 : Int) : Option (Bool) := (holtlaw4_awake.f k).bind fun t198 => (if t198 = true then ((block_Seal.f k (wrap64 (1 + (wrap64 (Int.tmod (IntKind.u64.wrap (a0)) 3)))) a1 a2 a3).bind fun bt199 => (if (a3.size : Int) > 480 then ((holtlaw0_Num.f bt199.2).bind fun t201 => (if t201 = 401 then (some (bt199.1.toList == ([] : List UInt8))) else (some false))) else ((block_Open.f k bt199.1 a2).bind fun bt202 => ((holtlaw0_Num.f bt199.2).bind fun t206 => (if t206 = 0 then ((holtlaw0_Num.f bt202.2.2.2).bind fun t207 => (if t207 = 0 then (if bt202.1 = (wrap64 (1 + (wrap64 (Int.tmod (IntKind.u64.wrap (a0)) 3)))) then (if bt202.2.1 = a1 then (if (bt202.2.2.1.size : Int) = 480 then (if 0 ≤ (a3.size : Int) then (if (a3.size : Int) ≤ (bt202.2.2.1.size : Int) then (holtlaw4_BlockBack.j0 k a2 a3 a4 a5 bt199.1 bt202.2.2.1 ((bt202.2.2.1.extract 0 ((a3.size : Int) : Int).toNat).toList != a3.toList)) else (none)) else (none)) else (holtlaw4_BlockBack.j0 k a2 a3 a4 a5 bt199.1 bt202.2.2.1 true)) else (holtlaw4_BlockBack.j0 k a2 a3 a4 a5 bt199.1 bt202.2.2.1 true)) else (holtlaw4_BlockBack.j0 k a2 a3 a4 a5 bt199.1 bt202.2.2.1 true)) else (holtlaw4_BlockBack.j0 k a2 a3 a4 a5 bt199.1 bt202.2.2.1 true))) else (holtlaw4_BlockBack.j0 k a2 a3 a4 a5 bt199.1 bt202.2.2.1 true)))))) else (some false))
theorem holtlaw4_BlockBack.mono_l : ∀ k, (∀ y0 y1 y2 y3 y4 y5 y6, LeO (holtlaw4_BlockBack.j0 k y0 y1 y2 y3 y4 y5 y6) (holtlaw4_BlockBack.j0 (k + 1) y0 y1 y2 y3 y4 y5 y6)) ∧ (∀ y0 y1 y2 y3 y4 y5, LeO (holtlaw4_BlockBack.l0 k y0 y1 y2 y3 y4 y5) (holtlaw4_BlockBack.l0 (k + 1) y0 y1 y2 y3 y4 y5))
  | 0 => ⟨fun _ _ _ _ _ _ _ r h => by simp [holtlaw4_BlockBack.j0] at h, fun _ _ _ _ _ _ r h => by simp [holtlaw4_BlockBack.l0] at h⟩
  | k + 1 => by
    obtain ⟨ih0, ih1⟩ := holtlaw4_BlockBack.mono_l k
    refine ⟨?_, ?_⟩
    · intro y0 y1 y2 y3 y4 y5 y6
      unfold holtlaw4_BlockBack.j0
      repeat' first
      | (with_reducible exact ih0 _ _ _ _ _ _ _)
      | (with_reducible exact ih1 _ _ _ _ _ _)
      | (with_reducible exact block_Open.mono _ _ _)
      | (with_reducible exact block_Seal.mono _ _ _ _ _)
      | (with_reducible exact holtlaw4_awake.mono _)
      | (with_reducible exact LeO.refl _)
      | (with_reducible exact LeO.none _)
      | (with_reducible refine LeO.ite ?_ ?_)
      | (with_reducible refine LeO.bind ?_ (fun _ => ?_))
      | exact ih0 _ _ _ _ _ _ _
      | exact ih1 _ _ _ _ _ _
      | exact block_Open.mono _ _ _
      | exact block_Seal.mono _ _ _ _ _
      | exact holtlaw4_awake.mono _
      | exact LeO.none _
      | refine LeO.ite ?_ ?_
      | refine LeO.bind ?_ (fun _ => ?_)
    · intro y0 y1 y2 y3 y4 y5
      unfold holtlaw4_BlockBack.l0
      repeat' first
      | (with_reducible exact ih0 _ _ _ _ _ _ _)
      | (with_reducible exact ih1 _ _ _ _ _ _)
      | (with_reducible exact block_Open.mono _ _ _)
      | (with_reducible exact block_Seal.mono _ _ _ _ _)
      | (with_reducible exact holtlaw4_awake.mono _)
      | (with_reducible exact LeO.refl _)
      | (with_reducible exact LeO.none _)
      | (with_reducible refine LeO.ite ?_ ?_)
      | (with_reducible refine LeO.bind ?_ (fun _ => ?_))
      | exact ih0 _ _ _ _ _ _ _
      | exact ih1 _ _ _ _ _ _
      | exact block_Open.mono _ _ _
      | exact block_Seal.mono _ _ _ _ _
      | exact holtlaw4_awake.mono _
      | exact LeO.none _
      | refine LeO.ite ?_ ?_
      | refine LeO.bind ?_ (fun _ => ?_)
theorem holtlaw4_BlockBack.mono : ∀ a0 a1 a2 a3 a4 a5 k, LeO (holtlaw4_BlockBack.f k a0 a1 a2 a3 a4 a5) (holtlaw4_BlockBack.f (k + 1) a0 a1 a2 a3 a4 a5) := by
  intro a0 a1 a2 a3 a4 a5 k
  obtain ⟨ih0, ih1⟩ := holtlaw4_BlockBack.mono_l k
  unfold holtlaw4_BlockBack.f
  repeat' first
      | (with_reducible exact ih0 _ _ _ _ _ _ _)
      | (with_reducible exact ih1 _ _ _ _ _ _)
      | (with_reducible exact block_Open.mono _ _ _)
      | (with_reducible exact block_Seal.mono _ _ _ _ _)
      | (with_reducible exact holtlaw4_awake.mono _)
      | (with_reducible exact LeO.refl _)
      | (with_reducible exact LeO.none _)
      | (with_reducible refine LeO.ite ?_ ?_)
      | (with_reducible refine LeO.bind ?_ (fun _ => ?_))
      | exact ih0 _ _ _ _ _ _ _
      | exact ih1 _ _ _ _ _ _
      | exact block_Open.mono _ _ _
      | exact block_Seal.mono _ _ _ _ _
      | exact holtlaw4_awake.mono _
      | exact LeO.none _
      | refine LeO.ite ?_ ?_
      | refine LeO.bind ?_ (fun _ => ?_)
def holtlaw4_BlockBack.T16 : Bool × List (List Nat × List Nat) := (true, [([], []), ([], []), ([0, 1], [0, 1]), ([], []), ([], []), ([3, 4], [3, 4]), ([], []), ([6], [6]), ([7], [7]), ([8], [8]), ([9], [9]), ([5, 10], [5, 10]), ([11], [11]), ([12], [12]), ([2, 13], [2, 13]), ([], []), ([], []), ([16], [16]), ([15, 17], [15, 17]), ([14, 18], [14, 18]), ([19, 0, 1, 2, 3, 4, 5, 6, 7, 8, 9, 10, 11, 12, 13, 14, 15, 16, 17, 18, 19], [19])])
def holtlaw4_BlockBack.B16 : List Nat := [0, 0, 3, 0, 0, 24, 0, 64, 192, 448, 960, 2040, 4088, 8184, 16383, 0, 0, 65536, 229376, 524287, 1048575]
theorem holtlaw4_BlockBack.tab16 : rtab .any (opsOf Try.f5 16) = holtlaw4_BlockBack.T16 := by kernel_rfl
theorem holtlaw4_BlockBack.bits16 : waitsOk holtlaw4_BlockBack.T16.2 holtlaw4_BlockBack.B16 = true := by kernel_rfl
set_option maxHeartbeats 8000000 in
set_option maxRecDepth 100000 in
theorem holtlaw4_BlockBack.calls (k : Nat) (a0 : Int) (a1 : Int) (a2 : Int) (a3 : ByteArray) (a4 : Int) (a5 : Int) (r : Bool) (w : World) (h : holtlaw4_BlockBack.f k a0 a1 a2 a3 a4 a5 = some r) :
    Calls Try.prog 5 #[.int .i64 a0, .int .u64 a1, .int .u64 a2, .string a3, .int .i64 a4, .int .i64 a5] w fun e w' => e = .returned (.bool r) ∧ Below w.heap.size w w' := by
  have HB := Aside0.mk (Below.refl w.heap.size w)
  have H : ((holtlaw4_awake.f k).bind fun t198 => (if t198 = true then ((block_Seal.f k (wrap64 (1 + (wrap64 (Int.tmod (IntKind.u64.wrap (a0)) 3)))) a1 a2 a3).bind fun bt199 => (if (a3.size : Int) > 480 then ((holtlaw0_Num.f bt199.2).bind fun t201 => (if t201 = 401 then (some (bt199.1.toList == ([] : List UInt8))) else (some false))) else ((block_Open.f k bt199.1 a2).bind fun bt202 => ((holtlaw0_Num.f bt199.2).bind fun t206 => (if t206 = 0 then ((holtlaw0_Num.f bt202.2.2.2).bind fun t207 => (if t207 = 0 then (if bt202.1 = (wrap64 (1 + (wrap64 (Int.tmod (IntKind.u64.wrap (a0)) 3)))) then (if bt202.2.1 = a1 then (if (bt202.2.2.1.size : Int) = 480 then (if 0 ≤ (a3.size : Int) then (if (a3.size : Int) ≤ (bt202.2.2.1.size : Int) then (holtlaw4_BlockBack.j0 k a2 a3 a4 a5 bt199.1 bt202.2.2.1 ((bt202.2.2.1.extract 0 ((a3.size : Int) : Int).toNat).toList != a3.toList)) else (none)) else (none)) else (holtlaw4_BlockBack.j0 k a2 a3 a4 a5 bt199.1 bt202.2.2.1 true)) else (holtlaw4_BlockBack.j0 k a2 a3 a4 a5 bt199.1 bt202.2.2.1 true)) else (holtlaw4_BlockBack.j0 k a2 a3 a4 a5 bt199.1 bt202.2.2.1 true)) else (holtlaw4_BlockBack.j0 k a2 a3 a4 a5 bt199.1 bt202.2.2.1 true))) else (holtlaw4_BlockBack.j0 k a2 a3 a4 a5 bt199.1 bt202.2.2.1 true)))))) else (some false))) = some r := h
  clear h
  replace H := Option.bind_eq_some_iff.mp H
  obtain ⟨t198, A70, H⟩ := H
  replace H : (if t198 = true then ((block_Seal.f k (wrap64 (1 + (wrap64 (Int.tmod (IntKind.u64.wrap (a0)) 3)))) a1 a2 a3).bind fun bt199 => (if (a3.size : Int) > 480 then ((holtlaw0_Num.f bt199.2).bind fun t201 => (if t201 = 401 then (some (bt199.1.toList == ([] : List UInt8))) else (some false))) else ((block_Open.f k bt199.1 a2).bind fun bt202 => ((holtlaw0_Num.f bt199.2).bind fun t206 => (if t206 = 0 then ((holtlaw0_Num.f bt202.2.2.2).bind fun t207 => (if t207 = 0 then (if bt202.1 = (wrap64 (1 + (wrap64 (Int.tmod (IntKind.u64.wrap (a0)) 3)))) then (if bt202.2.1 = a1 then (if (bt202.2.2.1.size : Int) = 480 then (if 0 ≤ (a3.size : Int) then (if (a3.size : Int) ≤ (bt202.2.2.1.size : Int) then (holtlaw4_BlockBack.j0 k a2 a3 a4 a5 bt199.1 bt202.2.2.1 ((bt202.2.2.1.extract 0 ((a3.size : Int) : Int).toNat).toList != a3.toList)) else (none)) else (none)) else (holtlaw4_BlockBack.j0 k a2 a3 a4 a5 bt199.1 bt202.2.2.1 true)) else (holtlaw4_BlockBack.j0 k a2 a3 a4 a5 bt199.1 bt202.2.2.1 true)) else (holtlaw4_BlockBack.j0 k a2 a3 a4 a5 bt199.1 bt202.2.2.1 true)) else (holtlaw4_BlockBack.j0 k a2 a3 a4 a5 bt199.1 bt202.2.2.1 true))) else (holtlaw4_BlockBack.j0 k a2 a3 a4 a5 bt199.1 bt202.2.2.1 true)))))) else (some false)) = some r := H
  have A7 := Aside0.mk A70
  clear A70
  by_cases c8 : t198 = true
  · subst c8
    have H1 : ((block_Seal.f k (wrap64 (1 + (wrap64 (Int.tmod (IntKind.u64.wrap (a0)) 3)))) a1 a2 a3).bind fun bt199 => (if (a3.size : Int) > 480 then ((holtlaw0_Num.f bt199.2).bind fun t201 => (if t201 = 401 then (some (bt199.1.toList == ([] : List UInt8))) else (some false))) else ((block_Open.f k bt199.1 a2).bind fun bt202 => ((holtlaw0_Num.f bt199.2).bind fun t206 => (if t206 = 0 then ((holtlaw0_Num.f bt202.2.2.2).bind fun t207 => (if t207 = 0 then (if bt202.1 = (wrap64 (1 + (wrap64 (Int.tmod (IntKind.u64.wrap (a0)) 3)))) then (if bt202.2.1 = a1 then (if (bt202.2.2.1.size : Int) = 480 then (if 0 ≤ (a3.size : Int) then (if (a3.size : Int) ≤ (bt202.2.2.1.size : Int) then (holtlaw4_BlockBack.j0 k a2 a3 a4 a5 bt199.1 bt202.2.2.1 ((bt202.2.2.1.extract 0 ((a3.size : Int) : Int).toNat).toList != a3.toList)) else (none)) else (none)) else (holtlaw4_BlockBack.j0 k a2 a3 a4 a5 bt199.1 bt202.2.2.1 true)) else (holtlaw4_BlockBack.j0 k a2 a3 a4 a5 bt199.1 bt202.2.2.1 true)) else (holtlaw4_BlockBack.j0 k a2 a3 a4 a5 bt199.1 bt202.2.2.1 true)) else (holtlaw4_BlockBack.j0 k a2 a3 a4 a5 bt199.1 bt202.2.2.1 true))) else (holtlaw4_BlockBack.j0 k a2 a3 a4 a5 bt199.1 bt202.2.2.1 true)))))) = some r := by rw [if_pos rfl] at H; exact H
    clear H
    have H := H1
    clear H1
    replace H := Option.bind_eq_some_iff.mp H
    obtain ⟨⟨t199, t200⟩, A90, H⟩ := H
    replace H : (if (a3.size : Int) > 480 then ((holtlaw0_Num.f t200).bind fun t201 => (if t201 = 401 then (some (t199.toList == ([] : List UInt8))) else (some false))) else ((block_Open.f k t199 a2).bind fun bt202 => ((holtlaw0_Num.f t200).bind fun t206 => (if t206 = 0 then ((holtlaw0_Num.f bt202.2.2.2).bind fun t207 => (if t207 = 0 then (if bt202.1 = (wrap64 (1 + (wrap64 (Int.tmod (IntKind.u64.wrap (a0)) 3)))) then (if bt202.2.1 = a1 then (if (bt202.2.2.1.size : Int) = 480 then (if 0 ≤ (a3.size : Int) then (if (a3.size : Int) ≤ (bt202.2.2.1.size : Int) then (holtlaw4_BlockBack.j0 k a2 a3 a4 a5 t199 bt202.2.2.1 ((bt202.2.2.1.extract 0 ((a3.size : Int) : Int).toNat).toList != a3.toList)) else (none)) else (none)) else (holtlaw4_BlockBack.j0 k a2 a3 a4 a5 t199 bt202.2.2.1 true)) else (holtlaw4_BlockBack.j0 k a2 a3 a4 a5 t199 bt202.2.2.1 true)) else (holtlaw4_BlockBack.j0 k a2 a3 a4 a5 t199 bt202.2.2.1 true)) else (holtlaw4_BlockBack.j0 k a2 a3 a4 a5 t199 bt202.2.2.1 true))) else (holtlaw4_BlockBack.j0 k a2 a3 a4 a5 t199 bt202.2.2.1 true))))) = some r := H
    have A9 := Aside0.mk A90
    clear A90
    by_cases c10 : (a3.size : Int) > 480
    · rw [if_pos c10] at H
      have c10b0 : decide (480 < (a3.size : Int)) = true := decide_eq_true c10
      have c10b1 : decide (480 < a3.size) = true := decide_eq_true (by omega)
      clear c10
      replace H := Option.bind_eq_some_iff.mp H
      obtain ⟨t201, A110, H⟩ := H
      replace H : (if t201 = 401 then (some (t199.toList == ([] : List UInt8))) else (some false)) = some r := H
      have A11 := Aside0.mk A110
      clear A110
      by_cases c12 : t201 = 401
      · rw [if_pos c12] at H
        have c12b0 : (t201 == 401) = true := beq_iff_eq.mpr c12
        have c12b1 : (t201 != 401) = false := bne_eq_false_iff_eq.mpr c12
        clear c12
        obtain rfl := Option.some.inj H
        go_enter Try.func5, Try.ntmps5
        go_wp2_with (first | ((with_reducible refine gate_callee (f := 9) rfl ?_); refine goesL_ (some 27) rfl rfl Try.func9 (by kernel_rfl) rfl #[] rfl (by (try simp only [List.map_toArray, List.map_cons, List.map_nil]); first | done | rfl | (simp only [List.length_drop, List.length_take]; rfl) | ((try simp only [decide_eq_false_iff_not, decide_eq_true_eq] at *); refine congrArg List.toArray ?_; (repeat' (first | with_reducible rfl | refine List.cons_eq_cons.2 ⟨?_, ?_⟩)); all_goals (first | rfl | (refine congrArg (Value.int _) ?_; unfold Go.RowKit.wrap64; omega)))) ?_; (with_reducible refine (holtlaw4_awake.calls k  true _ A7.out).mono ?_); rintro e w13 ⟨rfl, hb⟩; refine ⟨_, rfl, ?_⟩; have n0_ := Aside0.mk (below_step (by repeat (first | (with_reducible first | exact HB.out | apply below_alloc | apply pw_below_drewN | apply below_drew1) | exact HB.out)) hb); clear HB; have HB := n0_; clear n0_; (try clear hb); (try clear hb2); (try clear hk); (try clear hi)) | ((with_reducible refine gate_callee (f := 6) rfl ?_); refine goesL_ (some 39) rfl rfl Try.func6 (by kernel_rfl) rfl #[.int .i64 (wrap64 (1 + (wrap64 (Int.tmod (IntKind.u64.wrap (a0)) 3)))), .int .u64 a1, .int .u64 a2, .string a3] rfl (by (try simp only [List.map_toArray, List.map_cons, List.map_nil]); first | done | rfl | (simp only [List.length_drop, List.length_take]; rfl) | ((try simp only [decide_eq_false_iff_not, decide_eq_true_eq] at *); refine congrArg List.toArray ?_; (repeat' (first | with_reducible rfl | refine List.cons_eq_cons.2 ⟨?_, ?_⟩)); all_goals (first | rfl | (refine congrArg (Value.int _) ?_; unfold Go.RowKit.wrap64; omega)))) ?_; (with_reducible refine (block_Seal.calls k (wrap64 (1 + (wrap64 (Int.tmod (IntKind.u64.wrap (a0)) 3)))) a1 a2 a3 t199 t200 _ A9.out).mono ?_); rintro e w14 ⟨rfl, hb⟩; refine ⟨_, rfl, ?_⟩; have n0_ := Aside0.mk (below_step (by repeat (first | (with_reducible first | exact HB.out | apply below_alloc | apply pw_below_drewN | apply below_drew1) | exact HB.out)) hb); clear HB; have HB := n0_; clear n0_; (try clear hb); (try clear hb2); (try clear hk); (try clear hi)) | ((with_reducible refine gate_callee (f := 8) rfl ?_); refine goesL_ (some 46) rfl rfl Try.func8 (by kernel_rfl) rfl #[.int .i64 t200] rfl (by (try simp only [List.map_toArray, List.map_cons, List.map_nil]); first | done | rfl | (simp only [List.length_drop, List.length_take]; rfl) | ((try simp only [decide_eq_false_iff_not, decide_eq_true_eq] at *); refine congrArg List.toArray ?_; (repeat' (first | with_reducible rfl | refine List.cons_eq_cons.2 ⟨?_, ?_⟩)); all_goals (first | rfl | (refine congrArg (Value.int _) ?_; unfold Go.RowKit.wrap64; omega)))) ?_; (with_reducible refine (holtlaw0_Num.calls t200 t201 _ A11.out).mono ?_); rintro e w' ⟨rfl, ⟨nd, rfl⟩⟩; refine ⟨_, rfl, ?_⟩))
        go_ret
        exact ⟨by first | rfl | (simp [errW_none, errW_some] <;> rfl) | (simp [*, errW_none, errW_some] <;> rfl), by repeat (first | (with_reducible first | exact HB.out | apply below_alloc | apply pw_below_drewN | apply below_drew1) | exact HB.out)⟩
      · rw [if_neg c12] at H
        have c12b0 : (t201 == 401) = false := beq_eq_false_iff_ne.mpr c12
        have c12b1 : (t201 != 401) = true := bne_iff_ne.mpr c12
        obtain rfl := Option.some.inj H
        go_enter Try.func5, Try.ntmps5
        go_wp2_with (first | ((with_reducible refine gate_callee (f := 9) rfl ?_); refine goesL_ (some 27) rfl rfl Try.func9 (by kernel_rfl) rfl #[] rfl (by (try simp only [List.map_toArray, List.map_cons, List.map_nil]); first | done | rfl | (simp only [List.length_drop, List.length_take]; rfl) | ((try simp only [decide_eq_false_iff_not, decide_eq_true_eq] at *); refine congrArg List.toArray ?_; (repeat' (first | with_reducible rfl | refine List.cons_eq_cons.2 ⟨?_, ?_⟩)); all_goals (first | rfl | (refine congrArg (Value.int _) ?_; unfold Go.RowKit.wrap64; omega)))) ?_; (with_reducible refine (holtlaw4_awake.calls k  true _ A7.out).mono ?_); rintro e w15 ⟨rfl, hb⟩; refine ⟨_, rfl, ?_⟩; have n0_ := Aside0.mk (below_step (by repeat (first | (with_reducible first | exact HB.out | apply below_alloc | apply pw_below_drewN | apply below_drew1) | exact HB.out)) hb); clear HB; have HB := n0_; clear n0_; (try clear hb); (try clear hb2); (try clear hk); (try clear hi)) | ((with_reducible refine gate_callee (f := 6) rfl ?_); refine goesL_ (some 39) rfl rfl Try.func6 (by kernel_rfl) rfl #[.int .i64 (wrap64 (1 + (wrap64 (Int.tmod (IntKind.u64.wrap (a0)) 3)))), .int .u64 a1, .int .u64 a2, .string a3] rfl (by (try simp only [List.map_toArray, List.map_cons, List.map_nil]); first | done | rfl | (simp only [List.length_drop, List.length_take]; rfl) | ((try simp only [decide_eq_false_iff_not, decide_eq_true_eq] at *); refine congrArg List.toArray ?_; (repeat' (first | with_reducible rfl | refine List.cons_eq_cons.2 ⟨?_, ?_⟩)); all_goals (first | rfl | (refine congrArg (Value.int _) ?_; unfold Go.RowKit.wrap64; omega)))) ?_; (with_reducible refine (block_Seal.calls k (wrap64 (1 + (wrap64 (Int.tmod (IntKind.u64.wrap (a0)) 3)))) a1 a2 a3 t199 t200 _ A9.out).mono ?_); rintro e w16 ⟨rfl, hb⟩; refine ⟨_, rfl, ?_⟩; have n0_ := Aside0.mk (below_step (by repeat (first | (with_reducible first | exact HB.out | apply below_alloc | apply pw_below_drewN | apply below_drew1) | exact HB.out)) hb); clear HB; have HB := n0_; clear n0_; (try clear hb); (try clear hb2); (try clear hk); (try clear hi)) | ((with_reducible refine gate_callee (f := 8) rfl ?_); refine goesL_ (some 46) rfl rfl Try.func8 (by kernel_rfl) rfl #[.int .i64 t200] rfl (by (try simp only [List.map_toArray, List.map_cons, List.map_nil]); first | done | rfl | (simp only [List.length_drop, List.length_take]; rfl) | ((try simp only [decide_eq_false_iff_not, decide_eq_true_eq] at *); refine congrArg List.toArray ?_; (repeat' (first | with_reducible rfl | refine List.cons_eq_cons.2 ⟨?_, ?_⟩)); all_goals (first | rfl | (refine congrArg (Value.int _) ?_; unfold Go.RowKit.wrap64; omega)))) ?_; (with_reducible refine (holtlaw0_Num.calls t200 t201 _ A11.out).mono ?_); rintro e w' ⟨rfl, ⟨nd, rfl⟩⟩; refine ⟨_, rfl, ?_⟩))
        go_ret
        exact ⟨by first | rfl | (simp [errW_none, errW_some] <;> rfl) | (simp [*, errW_none, errW_some] <;> rfl), by repeat (first | (with_reducible first | exact HB.out | apply below_alloc | apply pw_below_drewN | apply below_drew1) | exact HB.out)⟩
    · rw [if_neg c10] at H
      have c10b0 : decide (480 < (a3.size : Int)) = false := decide_eq_false c10
      have c10b1 : decide (480 < a3.size) = false := decide_eq_false (by omega)
      clear c10
      replace H := Option.bind_eq_some_iff.mp H
      obtain ⟨⟨t202, t203, t204, t205⟩, A170, H⟩ := H
      replace H : ((holtlaw0_Num.f t200).bind fun t206 => (if t206 = 0 then ((holtlaw0_Num.f t205).bind fun t207 => (if t207 = 0 then (if t202 = (wrap64 (1 + (wrap64 (Int.tmod (IntKind.u64.wrap (a0)) 3)))) then (if t203 = a1 then (if (t204.size : Int) = 480 then (if 0 ≤ (a3.size : Int) then (if (a3.size : Int) ≤ (t204.size : Int) then (holtlaw4_BlockBack.j0 k a2 a3 a4 a5 t199 t204 ((t204.extract 0 ((a3.size : Int) : Int).toNat).toList != a3.toList)) else (none)) else (none)) else (holtlaw4_BlockBack.j0 k a2 a3 a4 a5 t199 t204 true)) else (holtlaw4_BlockBack.j0 k a2 a3 a4 a5 t199 t204 true)) else (holtlaw4_BlockBack.j0 k a2 a3 a4 a5 t199 t204 true)) else (holtlaw4_BlockBack.j0 k a2 a3 a4 a5 t199 t204 true))) else (holtlaw4_BlockBack.j0 k a2 a3 a4 a5 t199 t204 true))) = some r := H
      have A17 := Aside0.mk A170
      clear A170
      have HC18 := Aside0.mk H
      clear H
      go_enter Try.func5, Try.ntmps5
      go_upto_region 8 with (first | ((with_reducible refine gate_callee (f := 9) rfl ?_); refine goesL_ (some 27) rfl rfl Try.func9 (by kernel_rfl) rfl #[] rfl (by (try simp only [List.map_toArray, List.map_cons, List.map_nil]); first | done | rfl | (simp only [List.length_drop, List.length_take]; rfl) | ((try simp only [decide_eq_false_iff_not, decide_eq_true_eq] at *); refine congrArg List.toArray ?_; (repeat' (first | with_reducible rfl | refine List.cons_eq_cons.2 ⟨?_, ?_⟩)); all_goals (first | rfl | (refine congrArg (Value.int _) ?_; unfold Go.RowKit.wrap64; omega)))) ?_; (with_reducible refine (holtlaw4_awake.calls k  true _ A7.out).mono ?_); rintro e w19 ⟨rfl, hb⟩; refine ⟨_, rfl, ?_⟩; have n0_ := Aside0.mk (below_step (by repeat (first | (with_reducible first | exact HB.out | apply below_alloc | apply pw_below_drewN | apply below_drew1) | exact HB.out)) hb); clear HB; have HB := n0_; clear n0_; (try clear hb); (try clear hb2); (try clear hk); (try clear hi)) | ((with_reducible refine gate_callee (f := 6) rfl ?_); refine goesL_ (some 39) rfl rfl Try.func6 (by kernel_rfl) rfl #[.int .i64 (wrap64 (1 + (wrap64 (Int.tmod (IntKind.u64.wrap (a0)) 3)))), .int .u64 a1, .int .u64 a2, .string a3] rfl (by (try simp only [List.map_toArray, List.map_cons, List.map_nil]); first | done | rfl | (simp only [List.length_drop, List.length_take]; rfl) | ((try simp only [decide_eq_false_iff_not, decide_eq_true_eq] at *); refine congrArg List.toArray ?_; (repeat' (first | with_reducible rfl | refine List.cons_eq_cons.2 ⟨?_, ?_⟩)); all_goals (first | rfl | (refine congrArg (Value.int _) ?_; unfold Go.RowKit.wrap64; omega)))) ?_; (with_reducible refine (block_Seal.calls k (wrap64 (1 + (wrap64 (Int.tmod (IntKind.u64.wrap (a0)) 3)))) a1 a2 a3 t199 t200 _ A9.out).mono ?_); rintro e w20 ⟨rfl, hb⟩; refine ⟨_, rfl, ?_⟩; have n0_ := Aside0.mk (below_step (by repeat (first | (with_reducible first | exact HB.out | apply below_alloc | apply pw_below_drewN | apply below_drew1) | exact HB.out)) hb); clear HB; have HB := n0_; clear n0_; (try clear hb); (try clear hb2); (try clear hk); (try clear hi)) | ((with_reducible refine gate_callee (f := 10) rfl ?_); refine goesL_ (some 55) rfl rfl Try.func10 (by kernel_rfl) rfl #[.string t199, .int .u64 a2] rfl (by (try simp only [List.map_toArray, List.map_cons, List.map_nil]); first | done | rfl | (simp only [List.length_drop, List.length_take]; rfl) | ((try simp only [decide_eq_false_iff_not, decide_eq_true_eq] at *); refine congrArg List.toArray ?_; (repeat' (first | with_reducible rfl | refine List.cons_eq_cons.2 ⟨?_, ?_⟩)); all_goals (first | rfl | (refine congrArg (Value.int _) ?_; unfold Go.RowKit.wrap64; omega)))) ?_; (with_reducible refine (block_Open.calls k t199 a2 t202 t203 t204 t205 _ A17.out).mono ?_); rintro e w21 ⟨rfl, hb⟩; refine ⟨_, rfl, ?_⟩; have n0_ := Aside0.mk (below_step (by repeat (first | (with_reducible first | exact HB.out | apply below_alloc | apply pw_below_drewN | apply below_drew1) | exact HB.out)) hb); clear HB; have HB := n0_; clear n0_; (try clear hb); (try clear hb2); (try clear hk); (try clear hi)))
      (try simp only [Act.put, List.setIfInBounds_toArray, List.set_cons_zero, List.set_cons_succ])
      go_cut [90] (fun v90 wc => ∃ (kq : Nat) (x90_17 : Bool), v90 = .bool x90_17 ∧ Aside0 (holtlaw4_BlockBack.j0 kq a2 a3 a4 a5 t199 t204 x90_17 = some r) ∧ Aside0 (kq ≤ k) ∧ Aside0 (Below w.heap.size w wc))
      case first =>
        have H := HC18.out
        clear HC18
        replace H := Option.bind_eq_some_iff.mp H
        obtain ⟨t206, A220, H⟩ := H
        replace H : (if t206 = 0 then ((holtlaw0_Num.f t205).bind fun t207 => (if t207 = 0 then (if t202 = (wrap64 (1 + (wrap64 (Int.tmod (IntKind.u64.wrap (a0)) 3)))) then (if t203 = a1 then (if (t204.size : Int) = 480 then (if 0 ≤ (a3.size : Int) then (if (a3.size : Int) ≤ (t204.size : Int) then (holtlaw4_BlockBack.j0 k a2 a3 a4 a5 t199 t204 ((t204.extract 0 ((a3.size : Int) : Int).toNat).toList != a3.toList)) else (none)) else (none)) else (holtlaw4_BlockBack.j0 k a2 a3 a4 a5 t199 t204 true)) else (holtlaw4_BlockBack.j0 k a2 a3 a4 a5 t199 t204 true)) else (holtlaw4_BlockBack.j0 k a2 a3 a4 a5 t199 t204 true)) else (holtlaw4_BlockBack.j0 k a2 a3 a4 a5 t199 t204 true))) else (holtlaw4_BlockBack.j0 k a2 a3 a4 a5 t199 t204 true)) = some r := H
        have A22 := Aside0.mk A220
        clear A220
        by_cases c23 : t206 = 0
        · rw [if_pos c23] at H
          have c23b0 : (t206 == 0) = true := beq_iff_eq.mpr c23
          have c23b1 : (t206 != 0) = false := bne_eq_false_iff_eq.mpr c23
          clear c23
          (first | rw [c23b0] | (simp only [i64_w, i32_w]; rw [c23b0]) | skip)
          replace H := Option.bind_eq_some_iff.mp H
          obtain ⟨t207, A240, H⟩ := H
          replace H : (if t207 = 0 then (if t202 = (wrap64 (1 + (wrap64 (Int.tmod (IntKind.u64.wrap (a0)) 3)))) then (if t203 = a1 then (if (t204.size : Int) = 480 then (if 0 ≤ (a3.size : Int) then (if (a3.size : Int) ≤ (t204.size : Int) then (holtlaw4_BlockBack.j0 k a2 a3 a4 a5 t199 t204 ((t204.extract 0 ((a3.size : Int) : Int).toNat).toList != a3.toList)) else (none)) else (none)) else (holtlaw4_BlockBack.j0 k a2 a3 a4 a5 t199 t204 true)) else (holtlaw4_BlockBack.j0 k a2 a3 a4 a5 t199 t204 true)) else (holtlaw4_BlockBack.j0 k a2 a3 a4 a5 t199 t204 true)) else (holtlaw4_BlockBack.j0 k a2 a3 a4 a5 t199 t204 true)) = some r := H
          have A24 := Aside0.mk A240
          clear A240
          by_cases c25 : t207 = 0
          · rw [if_pos c25] at H
            have c25b0 : (t207 == 0) = true := beq_iff_eq.mpr c25
            have c25b1 : (t207 != 0) = false := bne_eq_false_iff_eq.mpr c25
            clear c25
            by_cases c26 : t202 = (wrap64 (1 + (wrap64 (Int.tmod (IntKind.u64.wrap (a0)) 3))))
            · rw [if_pos c26] at H
              have c26b0 : (t202 == (wrap64 (1 + (wrap64 (Int.tmod (IntKind.u64.wrap (a0)) 3))))) = true := beq_iff_eq.mpr c26
              have c26b1 : (t202 != (wrap64 (1 + (wrap64 (Int.tmod (IntKind.u64.wrap (a0)) 3))))) = false := bne_eq_false_iff_eq.mpr c26
              clear c26
              by_cases c27 : t203 = a1
              · rw [if_pos c27] at H
                have c27b0 : (t203 == a1) = true := beq_iff_eq.mpr c27
                have c27b1 : (t203 != a1) = false := bne_eq_false_iff_eq.mpr c27
                clear c27
                by_cases c28 : (t204.size : Int) = 480
                · rw [if_pos c28] at H
                  have c28b0 : ((t204.size : Int) == 480) = true := beq_iff_eq.mpr c28
                  have c28b1 : ((t204.size : Int) != 480) = false := bne_eq_false_iff_eq.mpr c28
                  clear c28
                  by_cases c29 : 0 ≤ (a3.size : Int)
                  · rw [if_pos c29] at H
                    have c29b0 := eq_true c29
                    have c29b1 : decide (0 ≤ (a3.size : Int)) = true := decide_eq_true c29
                    clear c29
                    by_cases c30 : (a3.size : Int) ≤ (t204.size : Int)
                    · rw [if_pos c30] at H
                      have c30b0 := eq_true c30
                      have c30b1 : decide ((a3.size : Int) ≤ (t204.size : Int)) = true := decide_eq_true c30
                      clear c30
                      have H' := Aside0.mk H
                      clear H
                      go_wp2_with (first | ((with_reducible refine gate_callee (f := 8) rfl ?_); refine goesL_ (some 61) rfl rfl Try.func8 (by kernel_rfl) rfl #[.int .i64 t200] rfl (by (try simp only [List.map_toArray, List.map_cons, List.map_nil]); first | done | rfl | (simp only [List.length_drop, List.length_take]; rfl) | ((try simp only [decide_eq_false_iff_not, decide_eq_true_eq] at *); refine congrArg List.toArray ?_; (repeat' (first | with_reducible rfl | refine List.cons_eq_cons.2 ⟨?_, ?_⟩)); all_goals (first | rfl | (refine congrArg (Value.int _) ?_; unfold Go.RowKit.wrap64; omega)))) ?_; (with_reducible refine (holtlaw0_Num.calls t200 t206 _ A22.out).mono ?_); rintro e w' ⟨rfl, ⟨nd, rfl⟩⟩; refine ⟨_, rfl, ?_⟩) | (go_at_call 8; (with_reducible refine (holtlaw0_Num.calls t205 t207 _ A24.out).mono ?_); rintro e w' ⟨rfl, ⟨nd, rfl⟩⟩))
                      go_meet
                      case rel => exact ⟨_, (((t204.extract 0 ((a3.size : Int) : Int).toNat).toList != a3.toList)), (by first | rfl | (simp; done) | (simp [*]; done)), H', ⟨by first | omega | exact Nat.le_refl _⟩, ⟨by repeat (first | (with_reducible first | exact HB.out | apply below_alloc | apply pw_below_drewN | apply below_drew1) | exact HB.out)⟩⟩
                    · rw [if_neg c30] at H
                      exact absurd H (by simp)
                  · rw [if_neg c29] at H
                    exact absurd H (by simp)
                · rw [if_neg c28] at H
                  have c28b0 : ((t204.size : Int) == 480) = false := beq_eq_false_iff_ne.mpr c28
                  have c28b1 : ((t204.size : Int) != 480) = true := bne_iff_ne.mpr c28
                  have H' := Aside0.mk H
                  clear H
                  go_wp2_with (first | ((with_reducible refine gate_callee (f := 8) rfl ?_); refine goesL_ (some 61) rfl rfl Try.func8 (by kernel_rfl) rfl #[.int .i64 t200] rfl (by (try simp only [List.map_toArray, List.map_cons, List.map_nil]); first | done | rfl | (simp only [List.length_drop, List.length_take]; rfl) | ((try simp only [decide_eq_false_iff_not, decide_eq_true_eq] at *); refine congrArg List.toArray ?_; (repeat' (first | with_reducible rfl | refine List.cons_eq_cons.2 ⟨?_, ?_⟩)); all_goals (first | rfl | (refine congrArg (Value.int _) ?_; unfold Go.RowKit.wrap64; omega)))) ?_; (with_reducible refine (holtlaw0_Num.calls t200 t206 _ A22.out).mono ?_); rintro e w' ⟨rfl, ⟨nd, rfl⟩⟩; refine ⟨_, rfl, ?_⟩) | (go_at_call 8; (with_reducible refine (holtlaw0_Num.calls t205 t207 _ A24.out).mono ?_); rintro e w' ⟨rfl, ⟨nd, rfl⟩⟩))
                  go_meet
                  case rel => exact ⟨_, (true), (by first | rfl | (simp; done) | (simp [*]; done)), H', ⟨by first | omega | exact Nat.le_refl _⟩, ⟨by repeat (first | (with_reducible first | exact HB.out | apply below_alloc | apply pw_below_drewN | apply below_drew1) | exact HB.out)⟩⟩
              · rw [if_neg c27] at H
                have c27b0 : (t203 == a1) = false := beq_eq_false_iff_ne.mpr c27
                have c27b1 : (t203 != a1) = true := bne_iff_ne.mpr c27
                have H' := Aside0.mk H
                clear H
                go_wp2_with (first | ((with_reducible refine gate_callee (f := 8) rfl ?_); refine goesL_ (some 61) rfl rfl Try.func8 (by kernel_rfl) rfl #[.int .i64 t200] rfl (by (try simp only [List.map_toArray, List.map_cons, List.map_nil]); first | done | rfl | (simp only [List.length_drop, List.length_take]; rfl) | ((try simp only [decide_eq_false_iff_not, decide_eq_true_eq] at *); refine congrArg List.toArray ?_; (repeat' (first | with_reducible rfl | refine List.cons_eq_cons.2 ⟨?_, ?_⟩)); all_goals (first | rfl | (refine congrArg (Value.int _) ?_; unfold Go.RowKit.wrap64; omega)))) ?_; (with_reducible refine (holtlaw0_Num.calls t200 t206 _ A22.out).mono ?_); rintro e w' ⟨rfl, ⟨nd, rfl⟩⟩; refine ⟨_, rfl, ?_⟩) | (go_at_call 8; (with_reducible refine (holtlaw0_Num.calls t205 t207 _ A24.out).mono ?_); rintro e w' ⟨rfl, ⟨nd, rfl⟩⟩))
                go_meet
                case rel => exact ⟨_, (true), (by first | rfl | (simp; done) | (simp [*]; done)), H', ⟨by first | omega | exact Nat.le_refl _⟩, ⟨by repeat (first | (with_reducible first | exact HB.out | apply below_alloc | apply pw_below_drewN | apply below_drew1) | exact HB.out)⟩⟩
            · rw [if_neg c26] at H
              have c26b0 : (t202 == (wrap64 (1 + (wrap64 (Int.tmod (IntKind.u64.wrap (a0)) 3))))) = false := beq_eq_false_iff_ne.mpr c26
              have c26b1 : (t202 != (wrap64 (1 + (wrap64 (Int.tmod (IntKind.u64.wrap (a0)) 3))))) = true := bne_iff_ne.mpr c26
              have H' := Aside0.mk H
              clear H
              go_wp2_with (first | ((with_reducible refine gate_callee (f := 8) rfl ?_); refine goesL_ (some 61) rfl rfl Try.func8 (by kernel_rfl) rfl #[.int .i64 t200] rfl (by (try simp only [List.map_toArray, List.map_cons, List.map_nil]); first | done | rfl | (simp only [List.length_drop, List.length_take]; rfl) | ((try simp only [decide_eq_false_iff_not, decide_eq_true_eq] at *); refine congrArg List.toArray ?_; (repeat' (first | with_reducible rfl | refine List.cons_eq_cons.2 ⟨?_, ?_⟩)); all_goals (first | rfl | (refine congrArg (Value.int _) ?_; unfold Go.RowKit.wrap64; omega)))) ?_; (with_reducible refine (holtlaw0_Num.calls t200 t206 _ A22.out).mono ?_); rintro e w' ⟨rfl, ⟨nd, rfl⟩⟩; refine ⟨_, rfl, ?_⟩) | (go_at_call 8; (with_reducible refine (holtlaw0_Num.calls t205 t207 _ A24.out).mono ?_); rintro e w' ⟨rfl, ⟨nd, rfl⟩⟩))
              go_meet
              case rel => exact ⟨_, (true), (by first | rfl | (simp; done) | (simp [*]; done)), H', ⟨by first | omega | exact Nat.le_refl _⟩, ⟨by repeat (first | (with_reducible first | exact HB.out | apply below_alloc | apply pw_below_drewN | apply below_drew1) | exact HB.out)⟩⟩
          · rw [if_neg c25] at H
            have c25b0 : (t207 == 0) = false := beq_eq_false_iff_ne.mpr c25
            have c25b1 : (t207 != 0) = true := bne_iff_ne.mpr c25
            have H' := Aside0.mk H
            clear H
            go_wp2_with (first | ((with_reducible refine gate_callee (f := 8) rfl ?_); refine goesL_ (some 61) rfl rfl Try.func8 (by kernel_rfl) rfl #[.int .i64 t200] rfl (by (try simp only [List.map_toArray, List.map_cons, List.map_nil]); first | done | rfl | (simp only [List.length_drop, List.length_take]; rfl) | ((try simp only [decide_eq_false_iff_not, decide_eq_true_eq] at *); refine congrArg List.toArray ?_; (repeat' (first | with_reducible rfl | refine List.cons_eq_cons.2 ⟨?_, ?_⟩)); all_goals (first | rfl | (refine congrArg (Value.int _) ?_; unfold Go.RowKit.wrap64; omega)))) ?_; (with_reducible refine (holtlaw0_Num.calls t200 t206 _ A22.out).mono ?_); rintro e w' ⟨rfl, ⟨nd, rfl⟩⟩; refine ⟨_, rfl, ?_⟩) | (go_at_call 8; (with_reducible refine (holtlaw0_Num.calls t205 t207 _ A24.out).mono ?_); rintro e w' ⟨rfl, ⟨nd, rfl⟩⟩))
            go_meet
            case rel => exact ⟨_, (true), (by first | rfl | (simp; done) | (simp [*]; done)), H', ⟨by first | omega | exact Nat.le_refl _⟩, ⟨by repeat (first | (with_reducible first | exact HB.out | apply below_alloc | apply pw_below_drewN | apply below_drew1) | exact HB.out)⟩⟩
        · rw [if_neg c23] at H
          have c23b0 : (t206 == 0) = false := beq_eq_false_iff_ne.mpr c23
          have c23b1 : (t206 != 0) = true := bne_iff_ne.mpr c23
          (first | rw [c23b0] | (simp only [i64_w, i32_w]; rw [c23b0]) | skip)
          have H' := Aside0.mk H
          clear H
          go_wp2_with (first | ((with_reducible refine gate_callee (f := 8) rfl ?_); refine goesL_ (some 61) rfl rfl Try.func8 (by kernel_rfl) rfl #[.int .i64 t200] rfl (by (try simp only [List.map_toArray, List.map_cons, List.map_nil]); first | done | rfl | (simp only [List.length_drop, List.length_take]; rfl) | ((try simp only [decide_eq_false_iff_not, decide_eq_true_eq] at *); refine congrArg List.toArray ?_; (repeat' (first | with_reducible rfl | refine List.cons_eq_cons.2 ⟨?_, ?_⟩)); all_goals (first | rfl | (refine congrArg (Value.int _) ?_; unfold Go.RowKit.wrap64; omega)))) ?_; (with_reducible refine (holtlaw0_Num.calls t200 t206 _ A22.out).mono ?_); rintro e w' ⟨rfl, ⟨nd, rfl⟩⟩; refine ⟨_, rfl, ?_⟩))
          go_meet
          case rel => exact ⟨_, (true), (by first | rfl | (simp; done) | (simp [*]; done)), H', ⟨by first | omega | exact Nat.le_refl _⟩, ⟨by repeat (first | (with_reducible first | exact HB.out | apply below_alloc | apply pw_below_drewN | apply below_drew1) | exact HB.out)⟩⟩
      case rest =>
        clear HC18
        try clear c1
        try clear c2
        try clear p2
        try clear c3
        try clear c5
        try clear c6
        try clear p6
        try clear c8
        try clear c9
        try clear c10
        try clear c10b0
        try clear c10b1
        try clear c12
        try clear c12b0
        try clear c12b1
        try clear c23
        try clear c23b0
        try clear c23b1
        try clear c25
        try clear c25b0
        try clear c25b1
        try clear c26
        try clear c26b0
        try clear c26b1
        try clear c27
        try clear c27b0
        try clear c27b1
        try clear c28
        try clear c28b0
        try clear c28b1
        try clear c29
        try clear c29b0
        try clear c29b1
        try clear c30
        try clear c30b0
        try clear c30b1
        obtain ⟨kq, x90_17, rfl, HA, HJ17, HB⟩ := hcut
        cases kq with
        | zero => exact absurd HA.out (by simp [holtlaw4_BlockBack.j0])
        | succ kj17 =>
          have H := HA.out
          clear HA
          simp only [holtlaw4_BlockBack.j0] at H
          by_cases c31 : x90_17 = true
          · subst c31
            have H1 : (some false) = some r := by rw [if_pos rfl] at H; exact H
            clear H
            have H := H1
            clear H1
            obtain rfl := Option.some.inj H
            go_wp2
            go_ret
            exact ⟨by first | rfl | (simp [errW_none, errW_some] <;> rfl) | (simp [*, errW_none, errW_some] <;> rfl), by repeat (first | (with_reducible first | exact HB.out | apply below_alloc | apply pw_below_drewN | apply below_drew1) | exact HB.out)⟩
          · replace c31 := Bool.eq_false_iff.mpr c31
            subst c31
            have H1 : (holtlaw4_BlockBack.l0 kj17 a2 a4 a5 t199 t204 (a3.size : Int)) = some r := by rw [if_neg (show ¬ (false = true) by decide)] at H; exact H
            clear H
            have H := H1
            clear H1
            have H' := Aside0.mk H
            clear H
            go_wp2
            go_loopg [20] kj17 (fun kq v20 w' => ∃ (x20_2 : Int), v20 = .int .i64 x20_2 ∧ Aside0 (holtlaw4_BlockBack.l0 kq a2 a4 a5 t199 t204 x20_2 = some r) ∧ Aside0 (kq ≤ kj17) ∧ Aside0 (Below w.heap.size w w'))
            case atStart => exact ⟨((a3.size : Int)), (by first | rfl | (simp; done) | (simp [*]; done)), H', ⟨Nat.le_refl _⟩, ⟨by repeat (first | (with_reducible first | exact HB.out | apply below_alloc | apply pw_below_drewN | apply below_drew1) | exact HB.out)⟩⟩
            case round =>
              clear H'
              try clear c1
              try clear c2
              try clear p2
              try clear c3
              try clear c5
              try clear c6
              try clear p6
              try clear c8
              try clear c9
              try clear c10
              try clear c10b0
              try clear c10b1
              try clear c12
              try clear c12b0
              try clear c12b1
              try clear c23
              try clear c23b0
              try clear c23b1
              try clear c25
              try clear c25b0
              try clear c25b1
              try clear c26
              try clear c26b0
              try clear c26b1
              try clear c27
              try clear c27b0
              try clear c27b1
              try clear c28
              try clear c28b0
              try clear c28b1
              try clear c29
              try clear c29b0
              try clear c29b1
              try clear c30
              try clear c30b0
              try clear c30b1
              try clear c31
              try clear p2
              try clear p6
              obtain ⟨x20_2, rfl, HA, HK2, HB⟩ := hrel
              cases gk with
              | zero => exact absurd HA.out (by simp [holtlaw4_BlockBack.l0])
              | succ k2 =>
                have H := HA.out
                clear HA
                simp only [holtlaw4_BlockBack.l0] at H
                by_cases c32 : x20_2 < (t204.size : Int)
                · rw [if_pos c32] at H
                  have c32b0 : decide (x20_2 < (t204.size : Int)) = true := decide_eq_true c32
                  clear c32
                  by_cases c33 : 0 ≤ x20_2
                  · rw [if_pos c33] at H
                    have c33b0 : decide (0 ≤ x20_2) = true := decide_eq_true c33
                    clear c33
                    by_cases c35 : (bt t204 x20_2) = 0
                    · rw [if_pos c35] at H
                      have c35b0 : ((bt t204 x20_2) == 0) = true := beq_iff_eq.mpr c35
                      have c35b1 : ((bt t204 x20_2) != 0) = false := bne_eq_false_iff_eq.mpr c35
                      clear c35
                      have H' := Aside0.mk H
                      clear H
                      have p34 : 0 ≤ (x20_2 : Int) := of_decide_eq_true (by first | (with_reducible assumption) | assumption)
                      have q34 : x20_2 < (t204.size : Int) := of_decide_eq_true (by first | (with_reducible assumption) | assumption)
                      have hx34 := bt_at t204 x20_2
                      replace p34 := eq_true p34
                      replace q34 := eq_true q34
                      go_wp2
                      go_roundg k2
                      case measure => have := HJ17.out; have := HK2.out; omega
                      case rel => exact ⟨(wrap64 (x20_2 + 1)), (by first | rfl | (simp; done) | (simp [*]; done)), H', ⟨by have := HJ17.out; have := HK2.out; omega⟩, ⟨by repeat (first | (with_reducible first | exact HB.out | apply below_alloc | apply pw_below_drewN | apply below_drew1) | exact HB.out)⟩⟩
                    · rw [if_neg c35] at H
                      have c35b0 : ((bt t204 x20_2) == 0) = false := beq_eq_false_iff_ne.mpr c35
                      have c35b1 : ((bt t204 x20_2) != 0) = true := bne_iff_ne.mpr c35
                      obtain rfl := Option.some.inj H
                      have p34 : 0 ≤ (x20_2 : Int) := of_decide_eq_true (by first | (with_reducible assumption) | assumption)
                      have q34 : x20_2 < (t204.size : Int) := of_decide_eq_true (by first | (with_reducible assumption) | assumption)
                      have hx34 := bt_at t204 x20_2
                      replace p34 := eq_true p34
                      replace q34 := eq_true q34
                      go_wp2
                      go_ret
                      exact ⟨by first | rfl | (simp [errW_none, errW_some] <;> rfl) | (simp [*, errW_none, errW_some] <;> rfl), by repeat (first | (with_reducible first | exact HB.out | apply below_alloc | apply pw_below_drewN | apply below_drew1) | exact HB.out)⟩
                  · rw [if_neg c33] at H
                    exact absurd H (by simp)
                · rw [if_neg c32] at H
                  have c32b0 : decide (x20_2 < (t204.size : Int)) = false := decide_eq_false c32
                  clear c32
                  by_cases c36 : (IntKind.u64.wrap ((t199.size : Int))) = 0
                  · rw [if_pos c36] at H
                    exact absurd H (by simp)
                  · rw [if_neg c36] at H
                    have c36b0 : ((IntKind.u64.wrap ((t199.size : Int))) == 0) = false := beq_eq_false_iff_ne.mpr c36
                    have c36b1 : ((IntKind.u64.wrap ((t199.size : Int))) != 0) = true := bne_iff_ne.mpr c36
                    obtain ⟨ji37, hji37⟩ : ∃ j_ : Int, (wrap64 (Int.tmod (IntKind.u64.wrap (a4)) (IntKind.u64.wrap ((t199.size : Int))))) = j_ := ⟨_, rfl⟩
                    replace H : (if 0 ≤ (ji37) then (if (ji37) ≤ (t199.size : Int) then (if (ji37) < (t199.size : Int) then ((some (([Go.bits .xor .u8 (bt t199 (ji37)) ((IntKind.u64.wrap (1 + (Int.tmod (IntKind.u64.wrap (a5)) 255))) % 256)] : List Int) : List Int)).bind fun y208 => (if (t199.extract 0 ((ji37) : Int).toNat).size + (strOfNums y208).size ≤ 9223372036854775807 then (if 0 ≤ (wrap64 ((ji37) + 1)) then (if (wrap64 ((ji37) + 1)) ≤ (t199.size : Int) then (if ((t199.extract 0 ((ji37) : Int).toNat) ++ (strOfNums y208)).size + (t199.extract ((wrap64 ((ji37) + 1)) : Int).toNat t199.size).size ≤ 9223372036854775807 then ((block_Open.f k2 (((t199.extract 0 ((ji37) : Int).toNat) ++ (strOfNums y208)) ++ (t199.extract ((wrap64 ((ji37) + 1)) : Int).toNat t199.size)) a2).bind fun bt211 => ((holtlaw0_Num.f bt211.2.2.2).bind fun t215 => (some (t215 != 0)))) else (none)) else (none)) else (none)) else (none))) else (none)) else (none)) else (none)) = some r := by first | (rw [hji37] at H; exact H) | (simp only [hji37] at H ⊢; exact H)
                    have hji37w : (IntKind.i64.wrap (Int.tmod (IntKind.u64.wrap (a4)) (IntKind.u64.wrap ((t199.size : Int))))) = ji37 := (i64_w _).trans hji37
                    by_cases c38 : 0 ≤ (ji37)
                    · rw [if_pos c38] at H
                      have c38b0 := eq_true c38
                      have c38b1 : decide (0 ≤ (ji37)) = true := decide_eq_true c38
                      clear c38
                      by_cases c39 : (ji37) ≤ (t199.size : Int)
                      · rw [if_pos c39] at H
                        have c39b0 := eq_true c39
                        have c39b1 : decide ((ji37) ≤ (t199.size : Int)) = true := decide_eq_true c39
                        clear c39
                        by_cases c40 : (ji37) < (t199.size : Int)
                        · rw [if_pos c40] at H
                          have c40b0 : decide ((ji37) < (t199.size : Int)) = true := decide_eq_true c40
                          clear c40
                          obtain ⟨y208, hy208⟩ : ∃ y_ : List Int, y_ = (([Go.bits .xor .u8 (bt t199 (ji37)) ((IntKind.u64.wrap (1 + (Int.tmod (IntKind.u64.wrap (a5)) 255))) % 256)] : List Int)) := ⟨_, rfl⟩
                          replace H : (if (t199.extract 0 ((ji37) : Int).toNat).size + (strOfNums y208).size ≤ 9223372036854775807 then (if 0 ≤ (wrap64 ((ji37) + 1)) then (if (wrap64 ((ji37) + 1)) ≤ (t199.size : Int) then (if ((t199.extract 0 ((ji37) : Int).toNat) ++ (strOfNums y208)).size + (t199.extract ((wrap64 ((ji37) + 1)) : Int).toNat t199.size).size ≤ 9223372036854775807 then ((block_Open.f k2 (((t199.extract 0 ((ji37) : Int).toNat) ++ (strOfNums y208)) ++ (t199.extract ((wrap64 ((ji37) + 1)) : Int).toNat t199.size)) a2).bind fun bt211 => ((holtlaw0_Num.f bt211.2.2.2).bind fun t215 => (some (t215 != 0)))) else (none)) else (none)) else (none)) else (none)) = some r := by first | (rw [hy208]; with_reducible exact H) | (have H2_ := (Option.bind_some _ _).symm.trans H; rw [hy208]; with_reducible exact H2_) | (have H2_ := (Option.bind_some _ _).symm.trans H; with_reducible exact H2_) | with_reducible exact H | (rw [hy208]; exact H) | exact H
                          have Ny208 := Aside0.mk hy208
                          clear hy208
                          by_cases c42 : (t199.extract 0 ((ji37) : Int).toNat).size + (strOfNums y208).size ≤ 9223372036854775807
                          · rw [if_pos c42] at H
                            have c42b0 := eq_true c42
                            have c42b1 : decide ((t199.extract 0 ((ji37) : Int).toNat).size + (strOfNums y208).size ≤ 9223372036854775807) = true := decide_eq_true c42
                            try have c42b2 : (9223372036854775807 < (t199.extract 0 ((ji37) : Int).toNat).size + (strOfNums y208).size) = False := eq_false (Nat.not_lt.2 c42)
                            have c42b3 : (9223372036854775807 < (t199.extract 0 ((ji37) : Int).toNat).size + (strOfNums y208).size) = False := eq_false (Nat.not_lt.2 c42)
                            (try simp only [ByteArray.size_append, ByteArray.size_extract, Nat.sub_zero, Nat.min_self] at c42b3)
                            (try (have hm_ : Int.toNat ji37 ≤ t199.size := (by have h_ : ji37 ≤ (t199.size : Int) := of_decide_eq_true (by first | (with_reducible assumption) | assumption); omega); simp only [Nat.min_eq_left hm_] at c42b3; clear hm_))
                            obtain ⟨ji43, hji43⟩ : ∃ j_ : Int, (wrap64 ((ji37) + 1)) = j_ := ⟨_, rfl⟩
                            replace H : (if 0 ≤ (ji43) then (if (ji43) ≤ (t199.size : Int) then (if ((t199.extract 0 ((ji37) : Int).toNat) ++ (strOfNums y208)).size + (t199.extract ((ji43) : Int).toNat t199.size).size ≤ 9223372036854775807 then ((block_Open.f k2 (((t199.extract 0 ((ji37) : Int).toNat) ++ (strOfNums y208)) ++ (t199.extract ((ji43) : Int).toNat t199.size)) a2).bind fun bt211 => ((holtlaw0_Num.f bt211.2.2.2).bind fun t215 => (some (t215 != 0)))) else (none)) else (none)) else (none)) = some r := by first | (rw [hji43] at H; exact H) | (simp only [hji43] at H ⊢; exact H)
                            have hji43w : (IntKind.i64.wrap ((ji37) + 1)) = ji43 := (i64_w _).trans hji43
                            by_cases c44 : 0 ≤ (ji43)
                            · rw [if_pos c44] at H
                              have c44b0 := eq_true c44
                              have c44b1 : decide (0 ≤ (ji43)) = true := decide_eq_true c44
                              clear c44
                              by_cases c45 : (ji43) ≤ (t199.size : Int)
                              · rw [if_pos c45] at H
                                have c45b0 := eq_true c45
                                have c45b1 : decide ((ji43) ≤ (t199.size : Int)) = true := decide_eq_true c45
                                clear c45
                                by_cases c46 : ((t199.extract 0 ((ji37) : Int).toNat) ++ (strOfNums y208)).size + (t199.extract ((ji43) : Int).toNat t199.size).size ≤ 9223372036854775807
                                · rw [if_pos c46] at H
                                  have c46b0 := eq_true c46
                                  have c46b1 : decide (((t199.extract 0 ((ji37) : Int).toNat) ++ (strOfNums y208)).size + (t199.extract ((ji43) : Int).toNat t199.size).size ≤ 9223372036854775807) = true := decide_eq_true c46
                                  try have c46b2 : (9223372036854775807 < ((t199.extract 0 ((ji37) : Int).toNat) ++ (strOfNums y208)).size + (t199.extract ((ji43) : Int).toNat t199.size).size) = False := eq_false (Nat.not_lt.2 c46)
                                  have c46b3 : (9223372036854775807 < ((t199.extract 0 ((ji37) : Int).toNat) ++ (strOfNums y208)).size + (t199.extract ((ji43) : Int).toNat t199.size).size) = False := eq_false (Nat.not_lt.2 c46)
                                  (try simp only [ByteArray.size_append, ByteArray.size_extract, Nat.sub_zero, Nat.min_self] at c46b3)
                                  (try (have hm_ : Int.toNat ji37 ≤ t199.size := (by have h_ : ji37 ≤ (t199.size : Int) := of_decide_eq_true (by first | (with_reducible assumption) | assumption); omega); simp only [Nat.min_eq_left hm_] at c46b3; clear hm_))
                                  replace H := Option.bind_eq_some_iff.mp H
                                  obtain ⟨⟨t211, t212, t213, t214⟩, A470, H⟩ := H
                                  replace H : ((holtlaw0_Num.f t214).bind fun t215 => (some (t215 != 0))) = some r := H
                                  have A47 := Aside0.mk A470
                                  clear A470
                                  replace H := Option.bind_eq_some_iff.mp H
                                  obtain ⟨t215, A480, H⟩ := H
                                  replace H : (some (t215 != 0)) = some r := H
                                  have A48 := Aside0.mk A480
                                  clear A480
                                  obtain rfl := Option.some.inj H
                                  try go_wp2
                                  have n0_ := Aside0.mk (below_drew1 HB.out)
                                  clear HB
                                  have HB := n0_
                                  clear n0_
                                  have p41 : 0 ≤ ((ji37) : Int) := of_decide_eq_true (by first | (with_reducible assumption) | assumption)
                                  have q41 : (ji37) < (t199.size : Int) := of_decide_eq_true (by first | (with_reducible assumption) | assumption)
                                  have hx41 := bt_at t199 (ji37)
                                  replace p41 := eq_true p41
                                  replace q41 := eq_true q41
                                  refine start_ (n := 21) (S := fun w' => True) (ds := []) #[false, false, false, false, false, false, false, false, false, false, false, false, false, false, false, false, false, false, false, false, false] (by kernel_rfl) rfl rfl trivial (fun hHeld => ?_); refine with_tabW holtlaw4_BlockBack.tab16 holtlaw4_BlockBack.bits16 (fun HT_ HW_ => ?_)
                                  generalize wr.drew = w49 at HB hHeld ⊢
                                  refine pure_ (i := 0) (N := some 110) (v := ?_) (a' := ?_) #[true, false, false, false, false, false, false, false, false, false, false, false, false, false, false, false, false, false, false, false, false] rfl rfl (any_of HT_.out (by kernel_rfl)) (fun _ _ _ h => h) (Or.inl ⟨by rfl, ?_⟩) ?_ ?_
                                  rotate_left
                                  · intro w'
                                    go_simp
                                    with_reducible rfl
                                  rotate_left
                                  · simp only [Act.put, List.setIfInBounds_toArray, List.set_cons_zero, List.set_cons_succ, i64_w, i32_w]
                                    rfl
                                  refine pure_ (i := 1) (N := some 111) (v := ?_) (a' := ?_) #[true, true, false, false, false, false, false, false, false, false, false, false, false, false, false, false, false, false, false, false, false] rfl rfl (any_of HT_.out (by kernel_rfl)) (fun _ _ _ h => h) (Or.inl ⟨by rfl, ?_⟩) ?_ ?_
                                  rotate_left
                                  · intro w'
                                    go_simp
                                    with_reducible rfl
                                  rotate_left
                                  · simp only [Act.put, List.setIfInBounds_toArray, List.set_cons_zero, List.set_cons_succ, i64_w, i32_w]
                                    rfl
                                  refine pure_ (i := 2) (N := some 112) (v := ?_) (a' := ?_) #[true, true, true, false, false, false, false, false, false, false, false, false, false, false, false, false, false, false, false, false, false] rfl rfl (any_of HT_.out (by kernel_rfl)) (fun _ _ _ h => h) (Or.inl ⟨by rfl, ?_⟩) ?_ ?_
                                  rotate_left
                                  · intro w'
                                    go_simp
                                    with_reducible rfl
                                  rotate_left
                                  · simp only [Act.put, List.setIfInBounds_toArray, List.set_cons_zero, List.set_cons_succ, i64_w, i32_w]
                                    rfl
                                  refine pure_ (i := 3) (N := some 113) (v := ?_) (a' := ?_) #[true, true, true, true, false, false, false, false, false, false, false, false, false, false, false, false, false, false, false, false, false] rfl rfl (any_of HT_.out (by kernel_rfl)) (fun _ _ _ h => h) (Or.inl ⟨by rfl, ?_⟩) ?_ ?_
                                  rotate_left
                                  · intro w'
                                    go_simp
                                    with_reducible rfl
                                  rotate_left
                                  · simp only [Act.put, List.setIfInBounds_toArray, List.set_cons_zero, List.set_cons_succ, i64_w, i32_w]
                                    rfl
                                  refine pure_ (i := 4) (N := some 114) (v := ?_) (a' := ?_) #[true, true, true, true, true, false, false, false, false, false, false, false, false, false, false, false, false, false, false, false, false] rfl rfl (any_of HT_.out (by kernel_rfl)) (fun _ _ _ h => h) (Or.inl ⟨by rfl, ?_⟩) ?_ ?_
                                  rotate_left
                                  · intro w'
                                    go_simp
                                    with_reducible rfl
                                  rotate_left
                                  · simp only [Act.put, List.setIfInBounds_toArray, List.set_cons_zero, List.set_cons_succ, i64_w, i32_w]
                                    rfl
                                  refine pure_ (i := 6) (N := some 116) (v := ?_) (a' := ?_) #[true, true, true, true, true, false, true, false, false, false, false, false, false, false, false, false, false, false, false, false, false] rfl rfl (any_of HT_.out (by kernel_rfl)) (fun _ _ _ h => h) (Or.inl ⟨by rfl, ?_⟩) ?_ ?_
                                  rotate_left
                                  · intro w'
                                    go_simp
                                    with_reducible rfl
                                  rotate_left
                                  · simp only [Act.put, List.setIfInBounds_toArray, List.set_cons_zero, List.set_cons_succ, i64_w, i32_w]
                                    rfl
                                  refine pure_ (i := 7) (N := some 117) (v := ?_) (a' := ?_) #[true, true, true, true, true, false, true, true, false, false, false, false, false, false, false, false, false, false, false, false, false] rfl rfl (any_of HT_.out (by kernel_rfl)) (fun _ _ _ h => h) (Or.inl ⟨by rfl, ?_⟩) ?_ ?_
                                  rotate_left
                                  · intro w'
                                    go_simp
                                    with_reducible rfl
                                  rotate_left
                                  · simp only [Act.put, List.setIfInBounds_toArray, List.set_cons_zero, List.set_cons_succ, i64_w, i32_w]
                                    rfl
                                  refine pure_ (i := 8) (N := some 118) (v := ?_) (a' := ?_) #[true, true, true, true, true, false, true, true, true, false, false, false, false, false, false, false, false, false, false, false, false] rfl rfl (any_of HT_.out (by kernel_rfl)) (fun _ _ _ h => h) (Or.inl ⟨by rfl, ?_⟩) ?_ ?_
                                  rotate_left
                                  · intro w'
                                    go_simp
                                    with_reducible rfl
                                  rotate_left
                                  · simp only [Act.put, List.setIfInBounds_toArray, List.set_cons_zero, List.set_cons_succ, i64_w, i32_w]
                                    rfl
                                  refine pure_ (i := 9) (N := some 119) (v := ?_) (a' := ?_) #[true, true, true, true, true, false, true, true, true, true, false, false, false, false, false, false, false, false, false, false, false] rfl rfl (any_of HT_.out (by kernel_rfl)) (fun _ _ _ h => h) (Or.inl ⟨by rfl, ?_⟩) ?_ ?_
                                  rotate_left
                                  · intro w'
                                    go_simp
                                    with_reducible rfl
                                  rotate_left
                                  · simp only [Act.put, List.setIfInBounds_toArray, List.set_cons_zero, List.set_cons_succ, i64_w, i32_w]
                                    rfl
                                  refine pure_ (i := 10) (N := some 120) (v := ?_) (a' := ?_) #[true, true, true, true, true, false, true, true, true, true, true, false, false, false, false, false, false, false, false, false, false] rfl rfl (any_of HT_.out (by kernel_rfl)) (fun _ _ _ h => h) (Or.inl ⟨by rfl, ?_⟩) ?_ ?_
                                  rotate_left
                                  · intro w'
                                    go_simp
                                    with_reducible rfl
                                  rotate_left
                                  · simp only [Act.put, List.setIfInBounds_toArray, List.set_cons_zero, List.set_cons_succ, i64_w, i32_w]
                                    rfl
                                  refine pure_ (i := 15) (N := some 125) (v := ?_) (a' := ?_) #[true, true, true, true, true, false, true, true, true, true, true, false, false, false, false, true, false, false, false, false, false] rfl rfl (any_of HT_.out (by kernel_rfl)) (fun _ _ _ h => h) (Or.inl ⟨by rfl, ?_⟩) ?_ ?_
                                  rotate_left
                                  · intro w'
                                    go_simp
                                    with_reducible rfl
                                  rotate_left
                                  · simp only [Act.put, List.setIfInBounds_toArray, List.set_cons_zero, List.set_cons_succ, i64_w, i32_w]
                                    rfl
                                  refine pure_ (i := 16) (N := some 126) (v := ?_) (a' := ?_) #[true, true, true, true, true, false, true, true, true, true, true, false, false, false, false, true, true, false, false, false, false] rfl rfl (any_of HT_.out (by kernel_rfl)) (fun _ _ _ h => h) (Or.inl ⟨by rfl, ?_⟩) ?_ ?_
                                  rotate_left
                                  · intro w'
                                    go_simp
                                    with_reducible rfl
                                  rotate_left
                                  · simp only [Act.put, List.setIfInBounds_toArray, List.set_cons_zero, List.set_cons_succ, i64_w, i32_w]
                                    rfl
                                  refine pure_ (i := 17) (N := some 127) (v := ?_) (a' := ?_) #[true, true, true, true, true, false, true, true, true, true, true, false, false, false, false, true, true, true, false, false, false] rfl rfl (any_of HT_.out (by kernel_rfl)) (fun _ _ _ h => h) (Or.inl ⟨by rfl, ?_⟩) ?_ ?_
                                  rotate_left
                                  · intro w'
                                    go_simp
                                    with_reducible rfl
                                  rotate_left
                                  · simp only [Act.put, List.setIfInBounds_toArray, List.set_cons_zero, List.set_cons_succ, i64_w, i32_w]
                                    rfl
                                  refine pure_ (i := 18) (N := some 128) (v := ?_) (a' := ?_) #[true, true, true, true, true, false, true, true, true, true, true, false, false, false, false, true, true, true, true, false, false] rfl rfl (any_of HT_.out (by kernel_rfl)) (fun _ _ _ h => h) (Or.inl ⟨by rfl, ?_⟩) ?_ ?_
                                  rotate_left
                                  · intro w'
                                    go_simp
                                    with_reducible rfl
                                  rotate_left
                                  · simp only [Act.put, List.setIfInBounds_toArray, List.set_cons_zero, List.set_cons_succ, i64_w, i32_w]
                                    rfl
                                  refine take_ (i := 5) (N := some 115) (v := ?_) (a' := ?_) #[true, true, true, true, true, true, true, true, true, true, true, false, false, false, false, true, true, true, true, false, false] rfl rfl (take_ofW HT_.out HW_.out (by kernel_rfl)) (fun _ _ _ h => h) (Or.inl ⟨by rfl, ?_⟩) hHeld ?_ ?_
                                  rotate_left
                                  · intro w' _
                                    go_simp
                                    with_reducible rfl
                                  rotate_left
                                  · simp only [Act.put, List.setIfInBounds_toArray, List.set_cons_zero, List.set_cons_succ, i64_w, i32_w]
                                    rfl
                                  refine pure_ (i := 11) (N := some 121) (v := ?_) (a' := ?_) #[true, true, true, true, true, true, true, true, true, true, true, true, false, false, false, true, true, true, true, false, false] rfl rfl (any_of HT_.out (by kernel_rfl)) (fun _ _ _ h => h) (Or.inl ⟨by rfl, ?_⟩) ?_ ?_
                                  rotate_left
                                  · intro w'
                                    go_simp
                                    with_reducible rfl
                                  rotate_left
                                  · simp only [Act.put, List.setIfInBounds_toArray, List.set_cons_zero, List.set_cons_succ, i64_w, i32_w]
                                    rfl
                                  refine one_ (i := 12) (N := some 122) #[true, true, true, true, true, true, true, true, true, true, true, true, true, false, false, true, true, true, true, false, false] rfl rfl (one_of HT_.out (by kernel_rfl)) (by decide) (fun K hK => ?_)
                                  refine Kd.R_lit_step (Kd.int .u8) _ 5 ?hg (N := 122) ?hd (xs := ([Go.bits .xor .u8 (bt t199 (ji37)) ((IntKind.u64.wrap (1 + (Int.tmod (IntKind.u64.wrap (a5)) 255))) % 256)] : List Int)) (inner := [.int .u8 (Go.bits .xor .u8 (bt t199 (ji37)) ((IntKind.u64.wrap (1 + (Int.tmod (IntKind.u64.wrap (a5)) 255))) % 256))]) (ok := fun _ => True) (okp := fun _ => True) ?hr ?hp (fun _ hk => hk) trivial (Below.refl _ _) (Nat.le_refl _) (by simp) ?_; (case hd => rfl); (case hg => rfl); (case hr => first | (go_simp; done) | (go_simp; rfl)); (case hp => exact (Reps.one (show Kd.M (Kd.int .u8) _ _ _ (Go.bits .xor .u8 (bt t199 (ji37)) ((IntKind.u64.wrap (1 + (Int.tmod (IntKind.u64.wrap (a5)) 255))) % 256)) [.int .u8 (Go.bits .xor .u8 (bt t199 (ji37)) ((IntKind.u64.wrap (1 + (Int.tmod (IntKind.u64.wrap (a5)) 255))) % 256))] from rfl) (Reps.none _ _)))
                                  intro v209 w50 ho51 hb hg_ hnew_
                                  clear hg_ hnew_
                                  (first | rw [← Ny208.out] at ho51 | (simp only [Int.reduceToNat] at ho51; rw [← Ny208.out] at ho51))
                                  have n0_ := Aside0.mk (Kd.R_lower ho51 (below_size (by repeat (first | (with_reducible first | exact HB.out | apply below_alloc | apply pw_below_drewN | apply below_drew1) | exact HB.out))))
                                  have n1_ := Aside0.mk (below_step (by repeat (first | (with_reducible first | exact HB.out | apply below_alloc | apply pw_below_drewN | apply below_drew1) | exact HB.out)) hb)
                                  clear HB
                                  have HO210 := n0_
                                  have HB := n1_
                                  clear n0_ n1_
                                  clear hb ho51
                                  refine hK.out _ _ trivial (fun hHeld => ?_)
                                  clear hK K
                                  refine norm_ (a' := ?_) ?_ ?_
                                  rotate_left
                                  · show Act.put _ (some 122) _ = _
                                    simp only [Act.put, List.setIfInBounds_toArray, List.set_cons_zero, List.set_cons_succ, i64_w, i32_w]
                                    rfl
                                  refine one_ (i := 13) (N := some 123) #[true, true, true, true, true, true, true, true, true, true, true, true, true, true, false, true, true, true, true, false, false] rfl rfl (one_of HT_.out (by kernel_rfl)) (by decide) (fun K hK => ?_)
                                  have hcv52 := own_string (P := Try.prog) Try.underlying37 Try.underlying5 Try.underlying9 (Kd.own_of_R HO210.out)
                                  refine value_ (w1 := ?_) (v := ?_) (by rfl) rfl ?_ ?_
                                  rotate_left 2
                                  · go_simp
                                    constructor
                                    · rfl
                                    · rfl
                                  clear hcv52
                                  refine hK.out _ _ trivial (fun hHeld => ?_)
                                  clear hK K
                                  refine norm_ (a' := ?_) ?_ ?_
                                  rotate_left
                                  · show Act.put _ (some 123) _ = _
                                    simp only [Act.put, List.setIfInBounds_toArray, List.set_cons_zero, List.set_cons_succ, i64_w, i32_w]
                                    rfl
                                  refine pure_ (i := 14) (N := some 124) (v := ?_) (a' := ?_) #[true, true, true, true, true, true, true, true, true, true, true, true, true, true, true, true, true, true, true, false, false] rfl rfl (any_of HT_.out (by kernel_rfl)) (fun _ _ _ h => h) (Or.inl ⟨by rfl, ?_⟩) ?_ ?_
                                  rotate_left
                                  · intro w'
                                    go_simp
                                    with_reducible rfl
                                  rotate_left
                                  · simp only [Act.put, List.setIfInBounds_toArray, List.set_cons_zero, List.set_cons_succ, i64_w, i32_w]
                                    rfl
                                  refine pure_ (i := 19) (N := some 129) (v := ?_) (a' := ?_) #[true, true, true, true, true, true, true, true, true, true, true, true, true, true, true, true, true, true, true, true, false] rfl rfl (any_of HT_.out (by kernel_rfl)) (fun _ _ _ h => h) (Or.inl ⟨by rfl, ?_⟩) ?_ ?_
                                  rotate_left
                                  · intro w'
                                    go_simp
                                    with_reducible rfl
                                  rotate_left
                                  · simp only [Act.put, List.setIfInBounds_toArray, List.set_cons_zero, List.set_cons_succ, i64_w, i32_w]
                                    rfl
                                  refine pure_ (i := 20) (N := some 22) (v := ?_) (a' := ?_) #[true, true, true, true, true, true, true, true, true, true, true, true, true, true, true, true, true, true, true, true, true] rfl rfl (any_of HT_.out (by kernel_rfl)) (fun _ _ _ h => h) (Or.inl ⟨by rfl, ?_⟩) ?_ ?_
                                  rotate_left
                                  · intro w'
                                    go_simp
                                    with_reducible rfl
                                  rotate_left
                                  · simp only [Act.put, List.setIfInBounds_toArray, List.set_cons_zero, List.set_cons_succ, i64_w, i32_w]
                                    rfl
                                  refine done_ (done_of HT_.out (by kernel_rfl)) ?_
                                  try go_wp2_with (first | ((with_reducible refine gate_callee (f := 10) rfl ?_); refine goesL_ (some 133) rfl rfl Try.func10 (by kernel_rfl) rfl #[.string (((t199.extract 0 ((ji37) : Int).toNat) ++ (strOfNums y208)) ++ (t199.extract ((ji43) : Int).toNat t199.size)), .int .u64 a2] rfl (by (try simp only [List.map_toArray, List.map_cons, List.map_nil]); first | done | (simp only [hji37, hji43]; rfl) | rfl | (simp only [List.length_drop, List.length_take]; rfl) | ((try simp only [decide_eq_false_iff_not, decide_eq_true_eq] at *); refine congrArg List.toArray ?_; (repeat' (first | with_reducible rfl | refine List.cons_eq_cons.2 ⟨?_, ?_⟩)); all_goals (first | rfl | (refine congrArg (Value.int _) ?_; unfold Go.RowKit.wrap64; omega)))) ?_; (with_reducible refine (block_Open.calls k2 (((t199.extract 0 ((ji37) : Int).toNat) ++ (strOfNums y208)) ++ (t199.extract ((ji43) : Int).toNat t199.size)) a2 t211 t212 t213 t214 _ A47.out).mono ?_); rintro e w53 ⟨rfl, hb⟩; refine ⟨_, rfl, ?_⟩; have n0_ := Aside0.mk (Kd.R_below (by (with_reducible repeat (first | apply Kd.R_alloc | apply Kd.R_drewN | apply Kd.R_drew)); exact HO210.out) hb); have n1_ := Aside0.mk (below_step (by repeat (first | (with_reducible first | exact HB.out | apply below_alloc | apply pw_below_drewN | apply below_drew1) | exact HB.out)) hb); clear HO210; clear HB; have HO210 := n0_; have HB := n1_; clear n0_ n1_; (try clear hb); (try clear hb2); (try clear hk); (try clear hi)) | ((with_reducible refine gate_callee (f := 8) rfl ?_); refine goesL_ (some 139) rfl rfl Try.func8 (by kernel_rfl) rfl #[.int .i64 t214] rfl (by (try simp only [List.map_toArray, List.map_cons, List.map_nil]); first | done | rfl | (simp only [List.length_drop, List.length_take]; rfl) | ((try simp only [decide_eq_false_iff_not, decide_eq_true_eq] at *); refine congrArg List.toArray ?_; (repeat' (first | with_reducible rfl | refine List.cons_eq_cons.2 ⟨?_, ?_⟩)); all_goals (first | rfl | (refine congrArg (Value.int _) ?_; unfold Go.RowKit.wrap64; omega)))) ?_; (with_reducible refine (holtlaw0_Num.calls t214 t215 _ A48.out).mono ?_); rintro e w' ⟨rfl, ⟨nd, rfl⟩⟩; refine ⟨_, rfl, ?_⟩))
                                  go_ret
                                  exact ⟨by first | rfl | (simp [errW_none, errW_some] <;> rfl) | (simp only [← hji37, ← hji43]; first | rfl | (simp [errW_none, errW_some] <;> rfl)) | (simp [*, errW_none, errW_some] <;> rfl), by repeat (first | (with_reducible first | exact HB.out | apply below_alloc | apply pw_below_drewN | apply below_drew1) | exact HB.out)⟩
                                · rw [if_neg c46] at H
                                  exact absurd H (by simp)
                              · rw [if_neg c45] at H
                                exact absurd H (by simp)
                            · rw [if_neg c44] at H
                              exact absurd H (by simp)
                          · rw [if_neg c42] at H
                            exact absurd H (by simp)
                        · rw [if_neg c40] at H
                          exact absurd H (by simp)
                      · rw [if_neg c39] at H
                        exact absurd H (by simp)
                    · rw [if_neg c38] at H
                      exact absurd H (by simp)
  · replace c8 := Bool.eq_false_iff.mpr c8
    subst c8
    have H1 : (some false) = some r := by rw [if_neg (show ¬ (false = true) by decide)] at H; exact H
    clear H
    have H := H1
    clear H1
    obtain rfl := Option.some.inj H
    go_enter Try.func5, Try.ntmps5
    go_wp2_with (first | ((with_reducible refine gate_callee (f := 9) rfl ?_); refine goesL_ (some 27) rfl rfl Try.func9 (by kernel_rfl) rfl #[] rfl (by (try simp only [List.map_toArray, List.map_cons, List.map_nil]); first | done | rfl | (simp only [List.length_drop, List.length_take]; rfl) | ((try simp only [decide_eq_false_iff_not, decide_eq_true_eq] at *); refine congrArg List.toArray ?_; (repeat' (first | with_reducible rfl | refine List.cons_eq_cons.2 ⟨?_, ?_⟩)); all_goals (first | rfl | (refine congrArg (Value.int _) ?_; unfold Go.RowKit.wrap64; omega)))) ?_; (with_reducible refine (holtlaw4_awake.calls k  false _ A7.out).mono ?_); rintro e w54 ⟨rfl, hb⟩; refine ⟨_, rfl, ?_⟩; have n0_ := Aside0.mk (below_step (by repeat (first | (with_reducible first | exact HB.out | apply below_alloc | apply pw_below_drewN | apply below_drew1) | exact HB.out)) hb); clear HB; have HB := n0_; clear n0_; (try clear hb); (try clear hb2); (try clear hk); (try clear hi)))
    go_ret
    exact ⟨by first | rfl | (simp [errW_none, errW_some] <;> rfl) | (simp [*, errW_none, errW_some] <;> rfl), by repeat (first | (with_reducible first | exact HB.out | apply below_alloc | apply pw_below_drewN | apply below_drew1) | exact HB.out)⟩

/-- THE ONE PURE STATEMENT of holtlaw4_BlockBack: yours. -/
def holtlaw4_BlockBack.Pure : Prop := ∀ (a0 : Int) (a1 : Int) (a2 : Int) (a3 : ByteArray) (a4 : Int) (a5 : Int), (Lit.int .i64 a0).wf = true → (Lit.int .u64 a1).wf = true → (Lit.int .u64 a2).wf = true → a3.size ≤ 140737488351232 → (Lit.int .i64 a4).wf = true → (Lit.int .i64 a5).wf = true → ∃ k, holtlaw4_BlockBack.f k a0 a1 a2 a3 a4 a5 = some true
theorem holtlaw4_BlockBack.walk (P : holtlaw4_BlockBack.Pure) (a0 : Int) (a1 : Int) (a2 : Int) (a3 : ByteArray) (a4 : Int) (a5 : Int) (w : World) (w0 : (Lit.int .i64 a0).wf = true) (w1 : (Lit.int .u64 a1).wf = true) (w2 : (Lit.int .u64 a2).wf = true) (w3 : a3.size ≤ 140737488351232) (w4 : (Lit.int .i64 a4).wf = true) (w5 : (Lit.int .i64 a5).wf = true) :
    Calls Try.prog 5 #[.int .i64 a0, .int .u64 a1, .int .u64 a2, .string a3, .int .i64 a4, .int .i64 a5] w fun e w' => e = .returned (.bool true) ∧ Below w.heap.size w w' := by
  obtain ⟨k, h⟩ := P a0 a1 a2 a3 a4 a5 w0 w1 w2 w3 w4 w5
  refine (holtlaw4_BlockBack.calls k a0 a1 a2 a3 a4 a5 true w h).mono ?_
  rintro e w' ⟨rfl, hd⟩
  exact ⟨rfl, hd⟩

end Go.Proofs.Ytlkjfjpcphlfeaa.Q
