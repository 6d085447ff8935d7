/- SuperTorn: of two superblocks one behind the other the later is taken, and the earlier, if the later one's slot is torn. This is the law's plain statement, over the printed functions and wip/ext/Torn.lean.txt. -/
import Derived.Test.YtlkjfjpcphlfeaaDoorSuper
import Derived.Test.YtlkjfjpcphlfeaaDoorTorn
import Derived.WalkSmall
set_option linter.unusedVariables false
set_option linter.unusedSimpArgs false
namespace Go.Proofs.YtlkjfjpcphlfeaaDoor.Pure
open Go Go.RowKit Go.Proofs.YtlkjfjpcphlfeaaDoor.Q Go.Proofs.YtlkjfjpcphlfeaaDoorW.PrintWords Go.Proofs.YtlkjfjpcphlfeaaDoorW.PrintLast Go.Proofs.YtlkjfjpcphlfeaaDoor.Base

theorem torn_ends (old : ByteArray) (d : Nat) : ∀ (l : List UInt8), 512 - l.length = d → ∃ k m, tornl k old (str l) = some (str m) := by
  induction d using Nat.strongRecOn with
  | _ d ih =>
    intro l hd
    by_cases h : l.length < 512
    · by_cases h2 : (l.length : Int) < (old.size : Int)
      · obtain ⟨lo, rfl, hlo⟩ := str_ex old
        have hlen : (((lo.take (l.length + 1)).drop l.length)).length = 1 := by
          rw [str_size] at hlo h2; simp; omega
        obtain ⟨k, m, hk⟩ := ih (512 - (l ++ (lo.take (l.length + 1)).drop l.length).length) (by rw [List.length_append, hlen]; omega) _ rfl
        refine ⟨k + 1, m, ?_⟩
        unfold tornl
        rw [str_size, if_pos (by omega), if_pos h2, str_extract, str_append]
        exact hk
      · obtain ⟨k, m, hk⟩ := ih (512 - (l ++ [0]).length) (by simp; omega) _ rfl
        refine ⟨k + 1, m, ?_⟩
        unfold tornl
        rw [str_size, if_pos (by omega), if_neg h2, show (⟨#[0]⟩ : ByteArray) = str [0] from rfl, str_append]
        exact hk
    · exact ⟨1, l, by unfold tornl; rw [str_size, if_neg (by omega)]⟩
theorem and48 (a : Int) (h0 : 0 ≤ a) (h1 : a ≤ 18446744073709551615) : ∃ g : Nat, bits BinOp.and IntKind.u64 a 281474976710655 = (g : Int) ∧ g ≤ 281474976710655 := by
  have h := bits_and_u64_nat a.toNat 281474976710655 (by omega) (by omega)
  rw [Int.toNat_of_nonneg h0] at h
  exact ⟨_, h, Nat.and_le_right⟩
theorem p98 (a : Int) (h0 : 0 ≤ a) (h1 : a ≤ 18446744073709551615) : ∃ p : Nat, IntKind.u64.wrap (2 + a.tmod 98) = (p : Int) ∧ 2 ≤ p ∧ p < 100 := by
  rw [Int.tmod_eq_emod_of_nonneg h0]
  refine ⟨(2 + a % 98).toNat, ?_, by omega, by omega⟩
  rw [u64_lt (by omega) (by omega)]; omega
theorem dec_bad (l : List UInt8) (s : Nat) (h : ¬ (openS l s).2.2.2 = 0) : ¬ (decS l s).2.2.2 = 0 := by
  unfold decS; rw [if_neg h]; exact h
theorem pick_is (l m : List UInt8) (k : Nat) (hk : 1100 ≤ k) : super_Pick.f k (str l) (str m) 100 = some (pickS (decS l 0) (decS m 1) 100) := by
  unfold super_Pick.f
  have d0 := Decode_is l 0 (by decide) k hk
  have d1 := Decode_is m 1 (by decide) k hk
  rw [show ((0 : Nat) : Int) = 0 from rfl] at d0
  rw [show ((1 : Nat) : Int) = 1 from rfl] at d1
  rw [d0, d1]; rfl
theorem SuperTorn : ∀ (a0 a1 a2 cut : Int) (old : ByteArray), (Lit.int .u64 a0).wf = true → (Lit.int .u64 a1).wf = true → (Lit.int .u64 a2).wf = true → (Lit.int .i64 cut).wf = true → old.size ≤ 140737488351232 → ∃ k, holtlaw5_SuperTorn.f k a0 a1 a2 cut old = some true := by
  intro a0 a1 a2 cut old h0 h1 h2 h3 h4
  refine ⟨1103, ?_⟩
  unfold holtlaw5_SuperTorn.f
  refine if_pos ?_
  have b0 := wf_u64 h0
  have b1 := wf_u64 h1
  have b2 := wf_u64 h2
  obtain ⟨g, hg, hgl⟩ := and48 a0 (by omega) (by omega)
  obtain ⟨p, hp, hp2, hp3⟩ := p98 a1 (by omega) (by omega)
  obtain ⟨q, hq, hq2, hq3⟩ := p98 a2 (by omega) (by omega)
  have mp : may 100 p := ⟨by decide, .inr ⟨hp2, hp3⟩⟩
  have mq : may 100 q := ⟨by decide, .inr ⟨hq2, hq3⟩⟩
  have hg1 : IntKind.u64.wrap ((g : Int) + 1) = ((g + 1 : Nat) : Int) := by rw [u64_lt (by omega) (by omega)]; rfl
  have e1 := Encode_is g 100 p (by omega) (by decide) (by omega) 1103 (by decide)
  have e2 := Encode_is (g + 1) 100 q (by omega) (by decide) (by omega) 1103 (by decide)
  unfold encS at e1 e2
  rw [if_pos mp] at e1
  rw [if_pos mq] at e2
  have da := fun s => dec_enc g 100 p s (by omega) (by decide) (by omega) mp
  have db := fun s => dec_enc (g + 1) 100 q s (by omega) (by decide) (by omega) mq
  generalize hsl : sealed 1 g (g % 2) (rows2 100 p) = sl at e1 da
  generalize htl : sealed 1 (g + 1) ((g + 1) % 2) (rows2 100 q) = tl at e2 db
  have htlen : tl.length = 512 := by
    have := (openS_ok tl ((g + 1) % 2) (by
      have := db ((g + 1) % 2)
      rw [if_pos rfl] at this
      exact Classical.byContradiction fun hn => dec_bad tl _ hn (by rw [this]))).1
    exact this
  have hc : 0 ≤ wrap64 ((IntKind.u64.wrap cut).tmod 512) ∧ wrap64 ((IntKind.u64.wrap cut).tmod 512) ≤ 511 := by
    have hw : 0 ≤ IntKind.u64.wrap cut := by simp only [IntKind.wrap, IntKind.signed, IntKind.bits, IntKind.min, IntKind.max]; simp; try omega
    rw [Int.tmod_eq_emod_of_nonneg hw, w64 (by omega) (by omega)]; omega
  have hx : ∀ c : Nat, (str tl).extract 0 c = str (tl.take c) := fun c => by rw [str_extract]; rfl
  obtain ⟨kl, m, hm⟩ := torn_ends old _ (tl.take (wrap64 ((IntKind.u64.wrap cut).tmod 512)).toNat) rfl
  have ho := ref_Open_is m ((g + 1) % 2) (by omega) 1103 (by decide)
  rw [← tmod2] at ho
  have key : ∃ y1 y2 y3 y4, pickT 1103 g (str sl) (str m) = some (y1, y2, y3, y4) ∧ ((openS m ((g + 1) % 2)).2.2.2 = 0 ∨ (y4 = 0 ∧ y1 = (g : Int) ∧ y2 = 100 ∧ y3 = (p : Int))) := by
    unfold pickT
    rw [tmod2]
    rcases Nat.mod_two_eq_zero_or_one g with e | e
    · rw [if_pos (by rw [e]; rfl), pick_is sl m 1103 (by decide), da 0, if_pos e, show (g + 1) % 2 = 1 from by omega]
      by_cases hz : (openS m 1).2.2.2 = 0
      · exact ⟨_, _, _, _, rfl, .inl hz⟩
      · have hd := dec_bad m 1 hz
        have hp : pickS ((g : Int), ((100 : Nat) : Int), (p : Int), 0) (decS m 1) 100 = ((g : Int), ((100 : Nat) : Int), (p : Int), 0) := by
          unfold pickS
          rw [if_pos ⟨⟨rfl, rfl⟩, .inl fun h => hd h.1⟩]
        rw [hp]
        exact ⟨_, _, _, _, rfl, .inr ⟨rfl, rfl, rfl, rfl⟩⟩
    · rw [if_neg (by rw [e]; decide), pick_is m sl 1103 (by decide), da 1, if_pos e, show (g + 1) % 2 = 0 from by omega]
      by_cases hz : (openS m 0).2.2.2 = 0
      · exact ⟨_, _, _, _, rfl, .inl hz⟩
      · have hd := dec_bad m 0 hz
        have hp : pickS (decS m 0) ((g : Int), ((100 : Nat) : Int), (p : Int), 0) 100 = ((g : Int), ((100 : Nat) : Int), (p : Int), 0) := by
          unfold pickS
          rw [if_neg (fun h => hd h.1.1), if_pos ⟨rfl, rfl⟩]
        rw [hp]
        exact ⟨_, _, _, _, rfl, .inr ⟨rfl, rfl, rfl, rfl⟩⟩
  have first : pickT 1103 g (str sl) (str tl) = some (((g + 1 : Nat) : Int), 100, (q : Int), 0) := by
    unfold pickT
    rw [tmod2]
    rcases Nat.mod_two_eq_zero_or_one g with e | e
    · rw [if_pos (by rw [e]; rfl), pick_is sl tl 1103 (by decide), da 0, if_pos e, db 1, if_pos (by omega)]
      unfold pickS
      rw [if_neg (fun h => h.2.elim (fun h => h ⟨rfl, rfl⟩) (fun h => absurd h (by simp; omega))), if_pos ⟨rfl, rfl⟩]; rfl
    · rw [if_neg (by rw [e]; decide), pick_is tl sl 1103 (by decide), da 1, if_pos e, db 0, if_pos (by omega)]
      unfold pickS
      rw [if_pos ⟨⟨rfl, rfl⟩, .inr (by simp; omega)⟩]; rfl
  obtain ⟨y1, y2, y3, y4, hy, hyy⟩ := key
  exact ⟨kl, g, ((g + 1 : Nat) : Int), p, q, _, _, _, y1, y2, y3, y4, str sl, str tl, str m, _, super_awake 1103 (by decide), hg, hg1, hp, hq, e1, e2, first, hc.1, by rw [str_size, htlen]; omega, by rw [hx]; exact hm, ho, hy, hyy⟩
end Go.Proofs.YtlkjfjpcphlfeaaDoor.Pure
