/- What super and its reference do, as printed: one plain account of each. -/
import Derived.Test.YtlkjfjpcphlfeaaDoorRefOpen
import Derived.Test.YtlkjfjpcphlfeaaDoorQ10
import Derived.Test.YtlkjfjpcphlfeaaDoorQ2
import Derived.Test.YtlkjfjpcphlfeaaDoorQ4
import Derived.Test.YtlkjfjpcphlfeaaDoorQ6
import Derived.Test.YtlkjfjpcphlfeaaDoorQ7
import Derived.Test.YtlkjfjpcphlfeaaDoorQ8
set_option linter.unusedVariables false
set_option linter.unusedSimpArgs false
namespace Go.Proofs.YtlkjfjpcphlfeaaDoor.Base
open Go Go.RowKit Go.Proofs.YtlkjfjpcphlfeaaDoorW.PrintWords Go.Proofs.YtlkjfjpcphlfeaaDoorW.PrintLast Go.Proofs.YtlkjfjpcphlfeaaDoorW.PrintMore
open Go.Proofs.YtlkjfjpcphlfeaaDoor.Q

/-! ### strings.Trim at the byte 0: is anything left? -/
theorem trimRight (n : Nat) : ∀ (q : List UInt8) (k : Nat), q.length = n → n < k → q.length ≤ 1000 → ∃ t, strings_trimRightByte.l0 k (str q) 0 = some (str t) ∧ ((∀ c ∈ q, c = 0) → t = []) ∧ (¬ (∀ c ∈ q, c = 0) → ∃ c ∈ t, c ≠ 0) := by
  induction n with
  | zero =>
    intro q k hq hk hb
    obtain ⟨k, rfl⟩ : ∃ m, k = m + 1 := ⟨k - 1, by omega⟩
    obtain rfl := List.eq_nil_of_length_eq_zero hq
    refine ⟨[], ?_, fun _ => rfl, fun h => absurd (fun c hc => by cases hc) h⟩
    simp only [strings_trimRightByte.l0]
    rw [if_neg (by rw [str_size]; simp)]
  | succ n ih =>
    intro q k hq hk hb
    obtain ⟨k, rfl⟩ : ∃ m, k = m + 1 := ⟨k - 1, by omega⟩
    obtain ⟨p, c, rfl⟩ : ∃ p c, q = p ++ [c] := by
      rcases List.eq_nil_or_concat q with rfl | ⟨p, c, rfl⟩
      · cases hq
      · exact ⟨p, c, by simp⟩
    have hp : p.length = n := by simp at hq; omega
    simp only [strings_trimRightByte.l0]
    have hs : ((str (p ++ [c])).size : Int) = (n : Int) + 1 := by rw [str_size]; simp; omega
    have hbt : bt (str (p ++ [c])) ((n : Nat) : Int) = ((c.toNat : Nat) : Int) := by
      rw [bt_str _ n (by simp; omega)]
      congr 2
      rw [List.getElem_append_right (by omega)]; simp
    rw [hs, if_pos (by omega), show ((n : Int) + 1 - 1) = (n : Int) from by omega, w64 (by omega) (by simp at hb; omega), if_pos (by omega), if_pos (by omega), hbt]
    by_cases hc : c = 0
    · subst hc
      rw [if_pos (by rfl), if_pos (by omega), str_extract', Int.toNat_natCast]
      have e : ((p ++ [(0 : UInt8)]).drop 0).take (n - 0) = p := by simp [← hp]
      rw [e]
      obtain ⟨t, h1, h2, h3⟩ := ih p k hp (by omega) (by simp at hb; omega)
      refine ⟨t, h1, fun h => h2 fun x hx => h x (by simp [hx]), fun h => h3 fun h' => h fun x hx => ?_⟩
      simp only [List.mem_append, List.mem_singleton] at hx
      rcases hx with hx | rfl
      · exact h' x hx
      · rfl
    · rw [if_neg (fun h => hc ((byte_zero c).1 h))]
      refine ⟨p ++ [c], rfl, fun h => absurd (h c (by simp)) hc, fun _ => ⟨c, by simp, hc⟩⟩
theorem trimRight_le (n : Nat) : ∀ (q : List UInt8) (k : Nat), q.length = n → n < k → q.length ≤ 1000 → ∀ t, strings_trimRightByte.l0 k (str q) 0 = some (str t) → t.length ≤ q.length := by
  induction n with
  | zero =>
    intro q k hq hk hb t h
    obtain ⟨k, rfl⟩ : ∃ m, k = m + 1 := ⟨k - 1, by omega⟩
    simp only [strings_trimRightByte.l0] at h
    rw [if_neg (by rw [str_size]; omega)] at h
    rw [str_inj (Option.some.inj h)]; exact Nat.le_refl _
  | succ n ih =>
    intro q k hq hk hb t h
    obtain ⟨k, rfl⟩ : ∃ m, k = m + 1 := ⟨k - 1, by omega⟩
    simp only [strings_trimRightByte.l0] at h
    rw [str_size, hq, if_pos (by omega), w64 (by omega) (by omega), if_pos (by omega), if_pos (by omega)] at h
    split at h
    · rw [if_pos (by omega), str_extract', show (((n + 1 : Nat) : Int) - 1).toNat = n from by omega] at h
      have := ih ((q.drop 0).take (n - 0)) k (by simp; omega) (by omega) (by simp; omega) t h
      simp at this; omega
    · rw [str_inj (Option.some.inj h)]; exact Nat.le_refl _
theorem trimLeft (n : Nat) : ∀ (q : List UInt8) (k : Nat), q.length = n → n < k → q.length ≤ 1000 → ∃ t, strings_trimLeftByte.l0 k (str q) 0 = some (str t) ∧ (q = [] → t = []) ∧ ((∃ c ∈ q, c ≠ 0) → t ≠ []) := by
  induction n with
  | zero =>
    intro q k hq hk hb
    obtain ⟨k, rfl⟩ : ∃ m, k = m + 1 := ⟨k - 1, by omega⟩
    obtain rfl := List.eq_nil_of_length_eq_zero hq
    refine ⟨[], ?_, fun _ => rfl, fun ⟨c, hc, _⟩ => by cases hc⟩
    simp only [strings_trimLeftByte.l0]
    rw [if_neg (by rw [str_size]; simp)]
  | succ n ih =>
    intro q k hq hk hb
    obtain ⟨k, rfl⟩ : ∃ m, k = m + 1 := ⟨k - 1, by omega⟩
    obtain ⟨c, p, rfl⟩ : ∃ c p, q = c :: p := by cases q with | nil => cases hq | cons c p => exact ⟨c, p, rfl⟩
    have hp : p.length = n := by simp at hq; omega
    simp only [strings_trimLeftByte.l0]
    have hbt : bt (str (c :: p)) 0 = ((c.toNat : Nat) : Int) := by
      rw [show (0 : Int) = ((0 : Nat) : Int) from rfl, bt_str _ 0 (by simp)]; rfl
    rw [if_pos (by rw [str_size, List.length_cons]; omega), if_pos (by rw [str_size, List.length_cons]; omega), hbt]
    by_cases hc : c = 0
    · subst hc
      rw [if_pos (by rfl), if_pos (by rw [str_size, List.length_cons]; omega), str_extract']
      have e : ((((0 : UInt8) :: p).drop 1).take ((str (0 :: p)).size - 1)) = p := by rw [str_size]; simp
      rw [e]
      obtain ⟨t, h1, h2, h3⟩ := ih p k hp (by omega) (by simp at hb; omega)
      refine ⟨t, h1, (fun h => by cases h), fun ⟨x, hx, hx0⟩ => h3 ⟨x, ?_, hx0⟩⟩
      simp only [List.mem_cons] at hx
      rcases hx with rfl | hx
      · exact absurd rfl hx0
      · exact hx
    · rw [if_neg (fun h => hc ((byte_zero c).1 h))]
      exact ⟨c :: p, rfl, (fun h => by cases h), (fun _ => by simp)⟩
def zeros (q : List UInt8) : Prop := ∀ c ∈ q, c = 0
instance (q : List UInt8) : Decidable (zeros q) := inferInstanceAs (Decidable (∀ c ∈ q, c = 0))
theorem Trim_is (q : List UInt8) (hb : q.length ≤ 1000) (k : Nat) (hk : 1001 ≤ k) : ∃ t, strings_Trim.f k (str q) (⟨#[0]⟩ : ByteArray) = some (str t) ∧ (t = [] ↔ zeros q) := by
  unfold strings_Trim.f
  rw [if_pos rfl, str_toList]
  by_cases h0 : q = []
  · subst h0
    rw [if_pos rfl]
    exact ⟨[], rfl, by simp [zeros]⟩
  · rw [if_neg h0]
    unfold strings_trimRightByte.f
    obtain ⟨t, h1, h2, h3⟩ := trimRight q.length q k rfl (by omega) hb
    rw [h1]
    simp only [Option.bind_some]
    unfold strings_trimLeftByte.f
    by_cases hz : zeros q
    · have := h2 hz
      subst this
      obtain ⟨t, e1, e2, _⟩ := trimLeft 0 [] k rfl (by omega) (by simp)
      exact ⟨t, e1, fun _ => hz, fun _ => e2 rfl⟩
    · have ht := h3 hz
      have htl : t.length ≤ q.length := trimRight_le q.length q k rfl (by omega) hb t h1
      obtain ⟨t', e1, _, e3⟩ := trimLeft t.length t k rfl (by omega) (by omega)
      exact ⟨t', e1, fun h => absurd h (e3 ht), fun h => absurd h hz⟩

/-! ### superblocks -/
def may (b r : Nat) : Prop := 3 ≤ b ∧ (r = 0 ∨ 2 ≤ r ∧ r < b)
instance (b r : Nat) : Decidable (may b r) := inferInstanceAs (Decidable (_ ∧ _))
theorem super_may_is (g b r : Nat) : super_may.f g b r = some (decide (may b r)) := by
  unfold super_may.f
  by_cases h1 : 3 ≤ b
  case neg => rw [if_neg (by omega), decide_eq_false (show ¬ may b r by unfold may; omega)]
  rw [if_pos (by omega)]
  by_cases h2 : r = 0
  case pos => rw [if_pos (by omega), decide_eq_true (show may b r by unfold may; omega)]
  rw [if_neg (by omega)]
  by_cases h3 : 2 ≤ r
  case neg => rw [if_neg (by omega), decide_eq_false (show ¬ may b r by unfold may; omega)]
  rw [if_pos (by omega)]
  congr 1
  by_cases h4 : r < b
  · rw [decide_eq_true (show (r : Int) < (b : Int) by omega), decide_eq_true (show may b r by unfold may; omega)]
  · rw [decide_eq_false (show ¬ (r : Int) < (b : Int) by omega), decide_eq_false (show ¬ may b r by unfold may; omega)]
theorem ref_may_is (g b r : Nat) : holtref5_may.f g b r = some (decide (may b r)) := super_may_is g b r
def rows2 (b r : Nat) : List UInt8 := le 8 b ++ le 8 r
theorem rows2_length (b r : Nat) : (rows2 b r).length = 16 := by simp [rows2, le_length]
theorem tmod2 (g : Nat) : Int.tmod (g : Int) 2 = ((g % 2 : Nat) : Int) := by rw [Int.tmod_eq_emod_of_nonneg (by omega)]; omega
def encS (g b r : Nat) : ByteArray × Int := if may b r then (str (sealed 1 g (g % 2) (rows2 b r)), 0) else (str [], 500)
theorem Encode_is (g b r : Nat) (hg : g < 18446744073709551616) (hb : b < 18446744073709551616) (hr : r < 18446744073709551616) (k : Nat) (hk : 600 ≤ k) : super_Encode.f k g b r = some (encS g b r) := by
  unfold super_Encode.f encS
  rw [super_may_is]
  simp only [Option.bind_some]
  by_cases h : may b r
  case neg => rw [decide_eq_false h, if_neg (by decide), if_neg h]; rfl
  rw [decide_eq_true h, if_pos rfl, if_pos h, num_Le8 b k (by omega) (by omega) (by omega), num_Le8 r k (by omega) (by omega) (by omega)]
  simp only [Option.bind_some, Int.toNat_natCast]
  rw [str_append, if_pos (by simp [str_size, le_length]), tmod2]
  have := Seal_ok 1 g (g % 2) (rows2 b r) (by decide) (by decide) hg (by omega) (by rw [rows2_length]; decide) k hk
  rw [show (((1 : UInt8).toNat : Nat) : Int) = 1 from rfl] at this
  rw [show le 8 b ++ le 8 r = rows2 b r from rfl, this]; rfl
theorem ref_Encode_is (g b r : Nat) (hg : g < 18446744073709551616) (hb : b < 18446744073709551616) (hr : r < 18446744073709551616) (k : Nat) (hk : 600 ≤ k) : holtref5_Encode.f k g b r = some (encS g b r) := by
  unfold holtref5_Encode.f encS
  rw [ref_may_is]
  simp only [Option.bind_some]
  by_cases h : may b r
  case neg => rw [decide_eq_false h, if_neg (by decide), if_neg h]; rfl
  rw [decide_eq_true h, if_pos rfl, if_pos h, ref_L8n b k hb (by omega), ref_L8n r k hr (by omega)]
  simp only [Option.bind_some]
  rw [str_append, if_pos (by simp [str_size, le_length]), tmod2]
  have := ref_Seal_ok 1 g (g % 2) (rows2 b r) (by decide) (by decide) hg (by omega) (by rw [rows2_length]; decide) k hk
  rw [show (((1 : UInt8).toNat : Nat) : Int) = 1 from rfl] at this
  rw [show le 8 b ++ le 8 r = rows2 b r from rfl, this]; rfl

/-- What a slot's block holds. -/
def fineS (l : List UInt8) (slot : Nat) : Prop :=
  (l.getD 4 0).toNat = 1 ∧ ofLe ((l.drop 8).take 8) % 2 = slot ∧ zeros (l.drop 48) ∧ may (ofLe ((l.drop 32).take 8)) (ofLe ((l.drop 40).take 8))
instance (l : List UInt8) (slot : Nat) : Decidable (fineS l slot) := inferInstanceAs (Decidable (_ ∧ _ ∧ _ ∧ _))
def decS (l : List UInt8) (slot : Nat) : Int × Int × Int × Int :=
  if (openS l slot).2.2.2 = 0 then
    (if fineS l slot then ((ofLe ((l.drop 8).take 8) : Nat), (ofLe ((l.drop 32).take 8) : Nat), (ofLe ((l.drop 40).take 8) : Nat), 0) else (0, 0, 0, 500))
  else (0, 0, 0, (openS l slot).2.2.2)
theorem openS_ok (l : List UInt8) (slot : Nat) (h : (openS l slot).2.2.2 = 0) : l.length = 512 ∧ openS l slot = ((((l.getD 4 0).toNat : Nat) : Int), ((ofLe ((l.drop 8).take 8) : Nat) : Int), str (l.drop 32), (0 : Int)) := by
  unfold openS at h ⊢
  by_cases h1 : l.length ≠ 512
  · rw [if_pos h1] at h; cases h
  · rw [if_neg h1] at h ⊢
    split at h
    · cases h
    · rename_i h2
      rw [if_neg h2]
      split at h
      · cases h
      · rename_i h3
        rw [if_neg h3]
        split at h
        · cases h
        · rename_i h4
          rw [if_neg h4]
          exact ⟨by omega, rfl⟩
theorem take8' (l : List UInt8) (h : l.length = 480) (i : Nat) (hi : i ≤ 472) : ((l.drop i).take 8).length = 8 := by simp; omega
theorem slot_wrap (a : Int) (h0 : 0 ≤ a) (h1 : a ≤ 9223372036854775807) : IntKind.u64.wrap a = ((a.toNat : Nat) : Int) := by rw [u64_lt h0 (by omega)]; omega
theorem Decode_is (l : List UInt8) (slot : Nat) (hs : slot ≤ 9223372036854775807) (k : Nat) (hk : 1100 ≤ k) : super_Decode.f k (str l) slot = some (decS l slot) := by
  unfold super_Decode.f decS
  rw [if_neg (by omega), slot_wrap _ (by omega) (by omega), Int.toNat_natCast, Open_is l slot (by omega) k (by omega)]
  simp only [Option.bind_some]
  by_cases h0 : (openS l slot).2.2.2 = 0
  case neg => rw [if_neg h0, if_neg h0]
  rw [if_pos h0, if_pos h0]
  obtain ⟨hl, ho⟩ := openS_ok l slot h0
  rw [ho]
  simp only
  have hd : (l.drop 32).length = 480 := by simp; omega
  rw [if_pos (by decide), str_size, hd, if_pos (by decide), str_extract', num_OfLe_ok _ (by rw [take8' _ hd _ (by decide)]; decide) (by rw [take8' _ hd _ (by decide)]; decide) k (by rw [take8' _ hd _ (by decide)]; omega)]
  simp only [Option.bind_some]
  rw [if_pos (by decide), if_pos (by decide), str_extract', num_OfLe_ok _ (by rw [take8' _ hd _ (by decide)]; decide) (by rw [take8' _ hd _ (by decide)]; decide) k (by rw [take8' _ hd _ (by decide)]; omega)]
  simp only [Option.bind_some, Nat.reduceSub, List.drop_zero, List.drop_drop, Nat.reduceAdd]
  rw [str_extract', tmod2]
  have he : ((l.drop 32).drop 16).take (480 - 16) = l.drop 48 := by rw [List.take_of_length_le (by simp; omega), List.drop_drop]
  obtain ⟨t, ht1, ht2⟩ := Trim_is (l.drop 48) (by simp; omega) k (by omega)
  rw [he, ht1]
  simp only [Option.bind_some, str_toList]
  rw [super_may_is]
  simp only [Option.bind_some]
  by_cases h1 : (l.getD 4 0).toNat = 1
  case neg => rw [if_neg (by omega), if_neg (show ¬ fineS l slot from fun x => h1 x.1)]
  rw [if_pos (by omega)]
  by_cases h2 : ofLe ((l.drop 8).take 8) % 2 = slot
  case neg => rw [if_neg (by omega), if_neg (show ¬ fineS l slot from fun x => h2 x.2.1)]
  rw [if_pos (by omega)]
  by_cases h3 : zeros (l.drop 48)
  case neg => rw [if_neg (fun x => h3 (ht2.1 x)), if_neg (show ¬ fineS l slot from fun x => h3 x.2.2.1)]
  rw [if_pos (ht2.2 h3)]
  by_cases h4 : may (ofLe ((l.drop 32).take 8)) (ofLe ((l.drop 40).take 8))
  case neg => rw [decide_eq_false h4, if_neg (by decide), if_neg (show ¬ fineS l slot from fun x => h4 x.2.2.2)]
  rw [decide_eq_true h4, if_pos rfl, if_pos (show fineS l slot from ⟨h1, h2, h3, h4⟩)]
theorem ref_loop (p : List UInt8) (hp : p.length ≤ 1000) (g b r : Int) (d : Nat) : ∀ (k i : Nat) (f : Bool), i + d = p.length → d < k →
    holtref5_Decode.l0 k (str p) f i g b r = some (if f = true ∧ zeros (p.drop i) then (g, b, r, 0) else (0, 0, 0, 500)) := by
  induction d with
  | zero =>
    intro k i f hi hk
    obtain ⟨k, rfl⟩ : ∃ m, k = m + 1 := ⟨k - 1, by omega⟩
    simp only [holtref5_Decode.l0]
    rw [if_neg (by rw [str_size]; omega), List.drop_of_length_le (by omega)]
    have : zeros [] := by intro c hc; cases hc
    cases f with
    | true => rw [if_pos rfl, if_pos ⟨rfl, this⟩]
    | false => rw [if_neg (by decide), if_neg (fun x => by cases x.1)]
  | succ d ih =>
    intro k i f hi hk
    obtain ⟨k, rfl⟩ : ∃ m, k = m + 1 := ⟨k - 1, by omega⟩
    simp only [holtref5_Decode.l0]
    rw [if_pos (by rw [str_size]; omega), w64 (by omega) (by omega)]
    have hz : zeros (p.drop i) ↔ (p[i]'(by omega) = 0 ∧ zeros (p.drop (i + 1))) := by
      unfold zeros
      rw [List.drop_eq_getElem_cons (by omega : i < p.length)]; exact List.forall_mem_cons
    cases f with
    | true =>
      rw [if_pos rfl, if_pos (by omega), bt_str p i (by omega)]
      have := ih k (i + 1) ((((p[i]'(by omega)).toNat : Nat) : Int) == 0) (by omega) (by omega)
      rw [show ((i : Int) + 1) = ((i + 1 : Nat) : Int) from by omega, this]
      congr 1
      by_cases h : p[i]'(by omega) = 0
      · rw [show (((((p[i]'(by omega)).toNat : Nat) : Int) == 0)) = true from by rw [beq_iff_eq]; exact (byte_zero _).2 h]
        simp only [true_and]
        by_cases h' : zeros (p.drop (i + 1))
        · rw [if_pos h', if_pos (hz.2 ⟨h, h'⟩)]
        · rw [if_neg h', if_neg (fun x => h' (hz.1 x).2)]
      · rw [show (((((p[i]'(by omega)).toNat : Nat) : Int) == 0)) = false from by rw [beq_eq_false_iff_ne]; exact fun x => h ((byte_zero _).1 x)]
        rw [if_neg (fun x => by cases x.1), if_neg (fun x => h (hz.1 x.2).1)]
    | false =>
      have := ih k (i + 1) false (by omega) (by omega)
      rw [if_neg (by decide), show ((i : Int) + 1) = ((i + 1 : Nat) : Int) from by omega, this]
      rw [if_neg (fun x => by cases x.1), if_neg (fun x => by cases x.1)]
theorem ref_Decode_is (l : List UInt8) (slot : Nat) (hs : slot ≤ 9223372036854775807) (k : Nat) (hk : 1100 ≤ k) : holtref5_Decode.f k (str l) slot = some (decS l slot) := by
  unfold holtref5_Decode.f decS
  rw [if_neg (by omega), slot_wrap _ (by omega) (by omega), Int.toNat_natCast, ref_Open_is l slot (by omega) k (by omega)]
  simp only [Option.bind_some]
  by_cases h0 : (openS l slot).2.2.2 = 0
  case neg => rw [if_neg h0, if_neg h0]
  rw [if_pos h0, if_pos h0]
  obtain ⟨hl, ho⟩ := openS_ok l slot h0
  rw [ho]
  simp only
  have hd : (l.drop 32).length = 480 := by simp; omega
  rw [if_pos (by decide), str_size, hd, if_pos (by decide), str_extract', ref_OfLe_ok _ (by rw [take8' _ hd _ (by decide)]; decide) (by rw [take8' _ hd _ (by decide)]; decide) k (by rw [take8' _ hd _ (by decide)]; omega)]
  simp only [Option.bind_some]
  rw [if_pos (by decide), if_pos (by decide), str_extract', ref_OfLe_ok _ (by rw [take8' _ hd _ (by decide)]; decide) (by rw [take8' _ hd _ (by decide)]; decide) k (by rw [take8' _ hd _ (by decide)]; omega)]
  simp only [Option.bind_some, Nat.reduceSub, List.drop_zero, List.drop_drop, Nat.reduceAdd]
  rw [ref_may_is, tmod2]
  simp only [Option.bind_some]
  have hj : ∀ (f : Bool) (g b r : Int), holtref5_Decode.j0 k (str (l.drop 32)) f g b r = some (if f = true ∧ zeros (l.drop 48) then (g, b, r, 0) else (0, 0, 0, 500)) := by
    intro f g b r
    obtain ⟨k, rfl⟩ : ∃ m, k = m + 1 := ⟨k - 1, by omega⟩
    simp only [holtref5_Decode.j0]
    have := ref_loop (l.drop 32) (by omega) g b r 464 k 16 f (by omega) (by omega)
    rw [show (16 : Int) = ((16 : Nat) : Int) from rfl, this, List.drop_drop]
  rw [hj, hj]
  by_cases h1 : (l.getD 4 0).toNat = 1
  case neg => rw [if_neg (by omega), if_neg (show ¬ fineS l slot from fun x => h1 x.1), if_neg (fun x => by cases x.1)]
  rw [if_pos (by omega)]
  by_cases h2 : ofLe ((l.drop 8).take 8) % 2 = slot
  case neg => rw [if_neg (by omega), if_neg (show ¬ fineS l slot from fun x => h2 x.2.1), if_neg (fun x => by cases x.1)]
  rw [if_pos (by omega)]
  by_cases h3 : zeros (l.drop 48)
  case neg => rw [if_neg (fun x => h3 x.2), if_neg (show ¬ fineS l slot from fun x => h3 x.2.2.1)]
  by_cases h4 : may (ofLe ((l.drop 32).take 8)) (ofLe ((l.drop 40).take 8))
  case neg => rw [decide_eq_false h4, if_neg (fun x => by cases x.1), if_neg (show ¬ fineS l slot from fun x => h4 x.2.2.2)]
  rw [decide_eq_true h4, if_pos ⟨rfl, h3⟩, if_pos (show fineS l slot from ⟨h1, h2, h3, h4⟩)]
theorem Decode_neg (s : ByteArray) (slot : Int) (hs : slot < 0) (k : Nat) : super_Decode.f k s slot = some (0, 0, 0, 500) := by
  unfold super_Decode.f; rw [if_pos hs]
theorem ref_Decode_neg (s : ByteArray) (slot : Int) (hs : slot < 0) (k : Nat) : holtref5_Decode.f k s slot = some (0, 0, 0, 500) := by
  unfold holtref5_Decode.f; rw [if_pos hs]
/-- What was encoded. -/
theorem dec_enc (g b r slot : Nat) (hg : g < 18446744073709551616) (hb : b < 18446744073709551616) (hr : r < 18446744073709551616) (hm : may b r) :
    decS (sealed 1 g (g % 2) (rows2 b r)) slot = if g % 2 = slot then (((g : Nat) : Int), ((b : Nat) : Int), ((r : Nat) : Int), (0 : Int)) else ((0 : Int), (0 : Int), (0 : Int), (404 : Int)) := by
  unfold decS
  rw [open_sealed 1 g (g % 2) slot (rows2 b r) (by decide) (by decide) hg (by omega) (by rw [rows2_length]; decide)]
  by_cases h : g % 2 = slot
  case neg => rw [if_neg h, if_neg h, if_neg (by decide)]
  rw [if_pos h, if_pos h, if_pos rfl]
  have e32 : (sealed 1 g (g % 2) (rows2 b r)).drop 32 = pad (rows2 b r) := sealed_drop32 _ _ _ _
  have e8 : (sealed 1 g (g % 2) (rows2 b r)).drop 8 = le 8 g ++ (le 8 (g % 2) ++ (le 8 (fnv basis (body 1 g (g % 2) 0 (pad (rows2 b r)))) ++ pad (rows2 b r))) := rfl
  have e40 : (sealed 1 g (g % 2) (rows2 b r)).drop 40 = le 8 r ++ List.replicate (480 - (rows2 b r).length) 0 := by
    rw [show 40 = 32 + 8 from rfl, ← List.drop_drop, e32]
    unfold pad rows2
    rw [List.append_assoc]; exact List.drop_left' (le_length _ _)
  have e48 : (sealed 1 g (g % 2) (rows2 b r)).drop 48 = List.replicate (480 - (rows2 b r).length) 0 := by
    rw [show 48 = 40 + 8 from rfl, ← List.drop_drop, e40]; exact List.drop_left' (le_length _ _)
  have t8 : ((sealed 1 g (g % 2) (rows2 b r)).drop 8).take 8 = le 8 g := by rw [e8]; exact List.take_left' (le_length _ _)
  have t32 : ((sealed 1 g (g % 2) (rows2 b r)).drop 32).take 8 = le 8 b := by rw [e32]; unfold pad rows2; rw [List.append_assoc]; exact List.take_left' (le_length _ _)
  have t40 : ((sealed 1 g (g % 2) (rows2 b r)).drop 40).take 8 = le 8 r := by rw [e40]; exact List.take_left' (le_length _ _)
  have hf : fineS (sealed 1 g (g % 2) (rows2 b r)) slot := by
    unfold fineS
    rw [t8, t32, t40, e48, ofLe_le 8 g hg, ofLe_le 8 b hb, ofLe_le 8 r hr]
    exact ⟨rfl, h, fun c hc => (List.mem_replicate.1 hc).2, hm⟩
  rw [if_pos hf, t8, t32, t40, ofLe_le 8 g hg, ofLe_le 8 b hb, ofLe_le 8 r hr]
theorem super_awake (k : Nat) (hk : 1100 ≤ k) : holtlaw5_awake.f k = some true := by
  unfold holtlaw5_awake.f
  have he := Encode_is 7 64 9 (by decide) (by decide) (by decide) k (by omega)
  have hm : may 64 9 := by decide
  unfold encS at he
  rw [if_pos hm] at he
  have h1 := Decode_is (sealed 1 7 (7 % 2) (rows2 64 9)) 1 (by decide) k hk
  have h0 := Decode_is (sealed 1 7 (7 % 2) (rows2 64 9)) 0 (by decide) k hk
  rw [dec_enc 7 64 9 _ (by decide) (by decide) (by decide) hm] at h1 h0
  rw [if_pos (by decide)] at h1
  rw [if_neg (by decide)] at h0
  rw [show ((7 : Nat) : Int) = 7 from rfl, show ((64 : Nat) : Int) = 64 from rfl, show ((9 : Nat) : Int) = 9 from rfl] at he h1
  rw [show ((1 : Nat) : Int) = 1 from rfl] at h1
  rw [show ((0 : Nat) : Int) = 0 from rfl] at h0
  rw [he]
  simp only [Option.bind_some]
  rw [h1, h0]
  simp only [Option.bind_some, holtlaw0_Num.f]
  rfl
end Go.Proofs.YtlkjfjpcphlfeaaDoor.Base
