/- BlockBack: what Seal made Open gives back, with the payload's zeros; a payload that is too long is refused; a block one byte of which is turned is none; no condition. This is the law's plain statement, over the printed functions. -/
import Derived.Test.YtlkjfjpcphlfeaaBlock
import Derived.Test.YtlkjfjpcphlfeaaQ4
import Derived.Test.YtlkjfjpcphlfeaaQ8
set_option linter.unusedVariables false
set_option linter.unusedSimpArgs false
namespace Go.Proofs.Ytlkjfjpcphlfeaa.Pure
open Go Go.RowKit Go.Proofs.Ytlkjfjpcphlfeaa.Q Go.Proofs.YtlkjfjpcphlfeaaW.PrintWords Go.Proofs.YtlkjfjpcphlfeaaW.PrintLast Go.Proofs.Ytlkjfjpcphlfeaa.Base

/-- Two blocks that part in one byte alone are not both sound. -/
theorem turned (p q : List UInt8) (c d : UInt8) (h : (p ++ c :: q).length = 512) (hcd : c ≠ d)
    (hc : ofLe (((p ++ c :: q).drop 24).take 8) = fnv basis (blanked (p ++ c :: q))) (hd : ofLe (((p ++ d :: q).drop 24).take 8) = fnv basis (blanked (p ++ d :: q))) : False := by
  have hl : p.length + 1 + q.length = 512 := by simp at h; omega
  rcases Nat.lt_or_ge p.length 24 with h1 | h1
  · have e : ∀ x : UInt8, blanked (p ++ x :: q) = p ++ x :: (q.take (23 - p.length) ++ (List.replicate 8 0 ++ q.drop (31 - p.length))) := by
      intro x
      unfold blanked
      rw [List.take_append, List.drop_append, List.take_of_length_le (by omega : p.length ≤ 24), List.drop_of_length_le (by omega : p.length ≤ 32), show 24 - p.length = (23 - p.length) + 1 from by omega, show 32 - p.length = (31 - p.length) + 1 from by omega]
      simp
    have e2 : ∀ x : UInt8, ((p ++ x :: q).drop 24).take 8 = (q.drop (23 - p.length)).take 8 := by
      intro x
      rw [List.drop_append, List.drop_of_length_le (by omega : p.length ≤ 24), show 24 - p.length = (23 - p.length) + 1 from by omega]
      simp
    rw [e, e2] at hc hd
    exact fnv_turn basis p _ c d (by decide) hcd (hc.symm.trans hd)
  · rcases Nat.lt_or_ge p.length 32 with h2 | h2
    · have e : ∀ x : UInt8, blanked (p ++ x :: q) = p.take 24 ++ (List.replicate 8 0 ++ q.drop (31 - p.length)) := by
        intro x
        unfold blanked
        rw [List.take_append, List.drop_append, show 24 - p.length = 0 from by omega, List.drop_of_length_le (by omega : p.length ≤ 32), show 32 - p.length = (31 - p.length) + 1 from by omega]
        simp
      have e2 : ∀ x : UInt8, ((p ++ x :: q).drop 24).take 8 = p.drop 24 ++ x :: q.take (31 - p.length) := by
        intro x
        rw [List.drop_append, show 24 - p.length = 0 from by omega, List.take_append, List.take_of_length_le (by simp; omega), List.length_drop, show 8 - (p.length - 24) = (31 - p.length) + 1 from by omega]
        simp
      rw [e, e2] at hc hd
      have := ofLe_inj (by simp) (hc.trans hd.symm)
      have := List.append_cancel_left this
      simp only [List.cons.injEq] at this
      exact hcd this.1
    · have e : ∀ x : UInt8, blanked (p ++ x :: q) = (p.take 24 ++ (List.replicate 8 0 ++ p.drop 32)) ++ x :: q := by
        intro x
        unfold blanked
        rw [List.take_append, List.drop_append, show 24 - p.length = 0 from by omega, show 32 - p.length = 0 from by omega]
        simp
      have e2 : ∀ x : UInt8, ((p ++ x :: q).drop 24).take 8 = (p.drop 24).take 8 := by
        intro x
        rw [List.drop_append, show 24 - p.length = 0 from by omega, List.take_append, List.length_drop, show 8 - (p.length - 24) = 0 from by omega]
        simp
      rw [e, e2] at hc hd
      exact fnv_turn basis _ q c d (by decide) hcd (hc.symm.trans hd)
theorem openS_sound (l : List UInt8) (a : Nat) (h : (openS l a).2.2.2 = 0) : l.length = 512 ∧ ofLe ((l.drop 24).take 8) = fnv basis (blanked l) := by
  unfold openS at h
  by_cases h1 : l.length ≠ 512
  · rw [if_pos h1] at h; cases h
  · rw [if_neg h1] at h
    split at h
    · cases h
    · split at h
      · cases h
      · rename_i hs
        exact ⟨by omega, by simpa using hs⟩
theorem pad_loop (a2 a4 a5 : Int) (x14 : ByteArray) (p : List UInt8) (R : Option Bool) (K : Nat) (hR : ∀ m, K ≤ m → ∀ i : Int, ¬ (i < ((str (pad p)).size : Int)) → holtlaw4_BlockBack.l0 (m + 1) a2 a4 a5 x14 (str (pad p)) i = R) (hp : p.length ≤ 480) (d : Nat) :
    ∀ (k i : Nat), p.length ≤ i → i + d = 480 → d + K < k → holtlaw4_BlockBack.l0 k a2 a4 a5 x14 (str (pad p)) i = R := by
  have hl := pad_length p hp
  induction d with
  | zero =>
    intro k i h0 hi hk
    obtain ⟨k, rfl⟩ : ∃ m, k = m + 1 := ⟨k - 1, by omega⟩
    exact hR k (by omega) i (by rw [str_size]; omega)
  | succ d ih =>
    intro k i h0 hi hk
    obtain ⟨k, rfl⟩ : ∃ m, k = m + 1 := ⟨k - 1, by omega⟩
    simp only [holtlaw4_BlockBack.l0]
    have hb : bt (str (pad p)) (i : Nat) = 0 := by
      rw [bt_str _ i (by omega)]
      have : (pad p)[i]'(by omega) = 0 := by
        unfold pad
        rw [List.getElem_append_right (by omega)]; simp
      rw [this]; rfl
    rw [if_pos (by rw [str_size]; omega), if_pos (by omega), if_pos hb, w64 (by omega) (by omega)]
    exact ih k (i + 1) (by omega) (by omega) (by omega)

set_option maxRecDepth 4000 in
theorem BlockBack : holtlaw4_BlockBack.Pure := by
  intro kd g a s turn by_ hk hg ha hs ht hb
  obtain ⟨hg0, hg1⟩ := wf_u64 hg
  obtain ⟨ha0, ha1⟩ := wf_u64 ha
  obtain ⟨l, rfl, hl⟩ := str_ex s
  obtain ⟨g, rfl⟩ := Int.eq_ofNat_of_zero_le hg0
  obtain ⟨a, rfl⟩ := Int.eq_ofNat_of_zero_le ha0
  refine ⟨2000, ?_⟩
  unfold holtlaw4_BlockBack.f
  rw [awake 2000 (by decide)]
  simp only [Option.bind_some]
  rw [if_pos trivial]
  -- the kind: 1, 2 or 3
  have hkd : 0 ≤ Int.tmod (IntKind.u64.wrap kd) 3 ∧ Int.tmod (IntKind.u64.wrap kd) 3 < 3 := by
    rw [IntKind.wrap_u64]
    rw [Int.tmod_eq_emod_of_nonneg (by omega)]; omega
  rw [w64 (x := Int.tmod (IntKind.u64.wrap kd) 3) (by omega) (by omega), w64 (x := 1 + Int.tmod (IntKind.u64.wrap kd) 3) (by omega) (by omega)]
  obtain ⟨c, hc⟩ := byte_of (1 + Int.tmod (IntKind.u64.wrap kd) 3) (by omega) (by omega)
  rw [hc]
  by_cases hz : 480 < l.length
  · rw [Seal_size _ _ _ _ (by omega) (by omega) (by rw [str_size]; exact hz) 2000]
    simp only [Option.bind_some]
    rw [str_size, if_pos (by omega)]
    simp only [holtlaw0_Num.f, Option.bind_some]
    rw [if_pos trivial, str_toList]; rfl
  · rw [Seal_ok c g a l (by omega) (by omega) (by omega) (by omega) (by omega) 2000 (by decide)]
    simp only [Option.bind_some]
    rw [str_size, if_neg (by omega), Open_is _ a (by omega) 2000 (by decide), open_sealed c g a a l (by omega) (by omega) (by omega) (by omega) (by omega), if_pos rfl]
    simp only [Option.bind_some, holtlaw0_Num.f]
    have hpl := pad_length l (by omega)
    have hsl := sealed_length c g a l (by omega)
    rw [if_pos trivial, if_pos trivial, if_pos trivial, if_pos trivial, str_size, hpl, if_pos (by rfl), if_pos (by omega), if_pos (by omega), Int.toNat_natCast, str_extract', str_toList, str_toList]
    have hpre : (List.drop 0 (pad l)).take (l.length - 0) = l := by
      unfold pad; simp
    rw [hpre, show (l != l) = false from by rw [bne_eq_false_iff_eq]]
    simp only [holtlaw4_BlockBack.j0]
    rw [if_neg (by decide), str_size]
    refine pad_loop _ _ _ _ l _ 700 ?_ (by omega) (480 - l.length) 1999 l.length (by omega) (by omega) (by omega)
    intro m hm i hi
    simp only [holtlaw4_BlockBack.l0]
    rw [if_neg hi, str_size, hsl, u64_lt (x := ((512 : Nat) : Int)) (by decide) (by decide), if_neg (by decide)]
    have hi0 : 0 ≤ Int.tmod (IntKind.u64.wrap turn) ((512 : Nat) : Int) ∧ Int.tmod (IntKind.u64.wrap turn) ((512 : Nat) : Int) < 512 := by
      rw [IntKind.wrap_u64, Int.tmod_eq_emod_of_nonneg (by omega)]; omega
    obtain ⟨hi1, hi2⟩ := hi0
    generalize Int.tmod (IntKind.u64.wrap turn) ((512 : Nat) : Int) = j at hi1 hi2 ⊢
    obtain ⟨j, rfl⟩ := Int.eq_ofNat_of_zero_le hi1
    rw [w64 (x := (j : Int)) (by omega) (by omega), if_pos (by omega), if_pos (by omega), if_pos (by omega), w64 (x := (j : Int) + 1) (by omega) (by omega), Int.toNat_natCast, show ((j : Int) + 1).toNat = j + 1 from by omega]
    -- the byte that is turned
    have hby : 1 ≤ IntKind.u64.wrap (1 + (Int.tmod (IntKind.u64.wrap by_) 255)) ∧ IntKind.u64.wrap (1 + (Int.tmod (IntKind.u64.wrap by_) 255)) ≤ 255 := by
      have : 0 ≤ Int.tmod (IntKind.u64.wrap by_) 255 ∧ Int.tmod (IntKind.u64.wrap by_) 255 < 255 := by
        rw [IntKind.wrap_u64, Int.tmod_eq_emod_of_nonneg (by omega)]; omega
      rw [u64_lt (by omega) (by omega)]; omega
    obtain ⟨hb1, hb2⟩ := hby
    generalize IntKind.u64.wrap (1 + (Int.tmod (IntKind.u64.wrap by_) 255)) = y at hb1 hb2 ⊢
    have hj : j < (sealed c g a l).length := by omega
    rw [bt_str _ j hj]
    have hx := ((sealed c g a l)[j]).toNat_lt
    rw [show y % 256 = ((y.toNat : Nat) : Int) from by omega, u8_xor_nat _ _ (by omega) (by omega)]
    obtain ⟨d, hd⟩ : ∃ d : UInt8, ((sealed c g a l)[j]).toNat ^^^ y.toNat = d.toNat := by
      have : ((sealed c g a l)[j]).toNat ^^^ y.toNat < 2 ^ 8 := Nat.xor_lt_two_pow hx (by omega)
      generalize ((sealed c g a l)[j]).toNat ^^^ y.toNat = z at this ⊢
      exact ⟨UInt8.ofNat z, by simp [UInt8.toNat_ofNat']; omega⟩
    rw [hd]
    have hne : (sealed c g a l)[j] ≠ d := by
      intro e
      rw [← e] at hd
      have := congrArg (((sealed c g a l)[j]).toNat ^^^ ·) hd
      simp only [← Nat.xor_assoc, Nat.xor_self, Nat.zero_xor] at this
      omega
    simp only [Option.bind_some]
    have e1 : strOfNums [((d.toNat : Nat) : Int)] = str [d] := by rw [strOf]; simp
    rw [e1]
    simp only [str_extract', str_append, str_size, hsl]
    have e2 : (List.drop 0 (sealed c g a l)).take (j - 0) ++ [d] ++ (List.drop (j + 1) (sealed c g a l)).take (512 - (j + 1)) = (sealed c g a l).take j ++ d :: (sealed c g a l).drop (j + 1) := by
      rw [List.take_of_length_le (l := List.drop (j + 1) (sealed c g a l)) (by simp; omega)]; simp
    rw [if_pos (by simp; omega), if_pos (by omega), if_pos (by omega), if_pos (by simp; omega), e2, Open_is _ a (by omega) m (by omega)]
    simp only [Option.bind_some, holtlaw0_Num.f]
    congr 1
    rw [bne_iff_ne]
    intro h0
    have hso := openS_sound _ _ h0
    have e3 : sealed c g a l = (sealed c g a l).take j ++ (sealed c g a l)[j] :: (sealed c g a l).drop (j + 1) := by
      rw [← List.drop_eq_getElem_cons hj, List.take_append_drop]
    have hs1 := sealed_sound c g a l
    rw [e3] at hs1
    refine turned _ _ _ _ ?_ hne hs1 hso.2
    rw [← e3]; exact hsl
end Go.Proofs.Ytlkjfjpcphlfeaa.Pure
