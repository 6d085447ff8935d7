/- What block and its reference do, as printed: one plain account of each. -/
import Derived.Test.YtlkjfjpcphlfeaaDoorNums2
import Derived.Test.YtlkjfjpcphlfeaaDoorQ2
import Derived.Test.YtlkjfjpcphlfeaaDoorQ3
import Derived.Test.YtlkjfjpcphlfeaaDoorQ4
import Derived.Test.YtlkjfjpcphlfeaaDoorQ7
set_option linter.unusedVariables false
set_option linter.unusedSimpArgs false
namespace Go.Proofs.YtlkjfjpcphlfeaaDoor.Base
open Go Go.RowKit Go.Proofs.YtlkjfjpcphlfeaaDoorW.PrintWords Go.Proofs.YtlkjfjpcphlfeaaDoorW.PrintLast Go.Proofs.YtlkjfjpcphlfeaaDoorW.PrintMore
open Go.Proofs.YtlkjfjpcphlfeaaDoor.Q

def holt : List UInt8 := [72, 79, 76, 84]
def body (kd : UInt8) (g a s : Nat) (l : List UInt8) : List UInt8 := holt ++ ([kd, 0, 0, 0] ++ (le 8 g ++ (le 8 a ++ (le 8 s ++ l))))
def pad (l : List UInt8) : List UInt8 := l ++ List.replicate (480 - l.length) 0
def sealed (kd : UInt8) (g a : Nat) (l : List UInt8) : List UInt8 := body kd g a (fnv basis (body kd g a 0 (pad l))) (pad l)
theorem body_length (kd g a s l) : (body kd g a s l).length = 32 + l.length := by simp [body, holt, le_length]; omega
theorem pad_length (l : List UInt8) (h : l.length ≤ 480) : (pad l).length = 480 := by simp [pad]; omega
theorem sealed_length (kd g a) (l : List UInt8) (h : l.length ≤ 480) : (sealed kd g a l).length = 512 := by simp [sealed, body_length, pad_length l h]

theorem block_le (x : Nat) (k : Nat) (h1 : x < 18446744073709551616) (hk : 10 ≤ k) : block_le.f k x = some (str (le 8 x)) := by
  unfold block_le.f
  rw [num_Le8 x k (by omega) (by omega) hk]; rfl
theorem holt_str : (⟨#[72, 79, 76, 84]⟩ : ByteArray) = str holt := rfl
theorem kind_str (c : UInt8) : strOfNums [((c.toNat : Nat) : Int) % 256, 0, 0, 0] = str [c, 0, 0, 0] := by
  have := c.toNat_lt
  rw [strOf]; simp only [List.map_cons, List.map_nil]
  congr 2
  have e : (((c.toNat : Nat) : Int) % 256).toNat = c.toNat := by omega
  rw [e]; simp
theorem header (kd : UInt8) (g a s : Nat) (l : List UInt8) (hl : l.length ≤ 1000) (hg : g < 18446744073709551616) (ha : a < 18446744073709551616) (hs : s < 18446744073709551616) (k : Nat) (hk : 10 ≤ k) :
    block_header_bytes.f k (kd.toNat : Nat) g a s (str l) = some (str (body kd g a s l)) := by
  unfold block_header_bytes.f
  simp only [Option.bind_some]
  rw [block_le g k hg hk, block_le a k ha hk, block_le s k hs hk, holt_str, kind_str]
  simp only [Option.bind_some, str_append, str_size]
  rw [if_pos (by simp), if_pos (by simp [holt, le_length]), if_pos (by simp [holt, le_length]), if_pos (by simp [holt, le_length]), if_pos (by simp [holt, le_length]; omega)]
  simp [body]
theorem byte_of (x : Int) (h0 : 0 ≤ x) (h1 : x < 256) : ∃ c : UInt8, x = ((c.toNat : Nat) : Int) := by
  refine ⟨UInt8.ofNat x.toNat, ?_⟩
  have : (UInt8.ofNat x.toNat).toNat = x.toNat := by simp [UInt8.toNat_ofNat']; omega
  omega

theorem Seal_ok (kd : UInt8) (g a : Nat) (l : List UInt8) (h1 : 1 ≤ kd.toNat) (h3 : kd.toNat ≤ 3) (hg : g < 18446744073709551616) (ha : a < 18446744073709551616) (hl : l.length ≤ 480) (k : Nat) (hk : 600 ≤ k) :
    block_Seal.f k (kd.toNat : Nat) g a (str l) = some (str (sealed kd g a l), 0) := by
  unfold block_Seal.f block_kinds.f
  rw [if_pos (show ((kd.toNat : Nat) : Int) ≥ 1 by omega), show decide (((kd.toNat : Nat) : Int) ≤ 3) = true from decide_eq_true (by omega)]
  simp only [Option.bind_some, if_true]
  rw [str_size, if_neg (by omega)]
  unfold strings_Repeat.f
  rw [w64 (x := 480 - (l.length : Int)) (by omega) (by omega), if_pos (by omega), if_pos (by omega), if_pos (by rw [show (⟨#[0]⟩ : ByteArray) = str [0] from rfl, str_size]; simp; omega)]
  have e : (⟨(Go.Lib.repeatL (⟨#[0]⟩ : ByteArray).data.toList (480 - (l.length : Int)).toNat).toArray⟩ : ByteArray) = str (List.replicate (480 - l.length) 0) := by
    rw [show (480 - (l.length : Int)).toNat = 480 - l.length from by omega]
    show str (Go.Lib.repeatL [0] _) = _
    rw [rep_zero]
  rw [e]
  simp only [Option.bind_some, str_append]
  rw [str_size, if_pos (by simp; omega)]
  have hp : (pad l).length = 480 := pad_length l hl
  rw [show (0 : Int) = ((0 : Nat) : Int) from rfl, show l ++ List.replicate (480 - l.length) 0 = pad l from rfl, header kd g a 0 (pad l) (by omega) hg ha (by decide) k (by omega)]
  simp only [Option.bind_some]
  rw [sum_Of _ (by rw [body_length]; omega) k (by rw [body_length]; omega)]
  simp only [Option.bind_some]
  rw [header kd g a _ (pad l) (by omega) hg ha (fnv_lt _ _ (by decide)) k (by omega)]
  rfl
theorem Seal_kind (kd : Int) (g a : Int) (s : ByteArray) (h : kd < 1 ∨ 3 < kd) (k : Nat) : block_Seal.f k kd g a s = some (str [], 400) := by
  unfold block_Seal.f block_kinds.f
  by_cases h1 : kd ≥ 1
  · rw [if_pos h1, show decide (kd ≤ 3) = false from decide_eq_false (by omega)]; rfl
  · rw [if_neg h1]; rfl
theorem Seal_size (kd : Int) (g a : Int) (s : ByteArray) (h1 : 1 ≤ kd) (h3 : kd ≤ 3) (hs : 480 < s.size) (k : Nat) : block_Seal.f k kd g a s = some (str [], 401) := by
  unfold block_Seal.f block_kinds.f
  rw [if_pos (show kd ≥ 1 by omega), show decide (kd ≤ 3) = true from decide_eq_true (by omega)]
  simp only [Option.bind_some, if_true]
  rw [if_pos (by omega)]; rfl

/-! ### what a block holds -/
def blanked (l : List UInt8) : List UInt8 := l.take 24 ++ (List.replicate 8 0 ++ l.drop 32)
def sound (l : List UInt8) : Prop := ofLe ((l.drop 24).take 8) = fnv basis (blanked l)
def openS (l : List UInt8) (at_ : Nat) : Int × Int × ByteArray × Int :=
  if l.length ≠ 512 then (0, 0, str [], 401)
  else if ¬ (l.take 4 = holt ∧ (1 ≤ (l.getD 4 0).toNat ∧ (l.getD 4 0).toNat ≤ 3) ∧ (l.drop 5).take 3 = [0, 0, 0]) then (0, 0, str [], 402)
  else if ofLe ((l.drop 24).take 8) ≠ fnv basis (blanked l) then (0, 0, str [], 403)
  else if ofLe ((l.drop 16).take 8) ≠ at_ then (0, 0, str [], 404)
  else (((l.getD 4 0).toNat : Nat), (ofLe ((l.drop 8).take 8) : Nat), str (l.drop 32), 0)
theorem str_extract' (l : List UInt8) (i j : Nat) : (str l).extract i j = str ((l.drop i).take (j - i)) := by
  rw [str_extract, List.drop_take]
theorem take8_length (l : List UInt8) (h : l.length = 512) (i : Nat) (hi : i ≤ 504) : ((l.drop i).take 8).length = 8 := by simp; omega
theorem body_of (l : List UInt8) (h : l.length = 512) (h4 : l.take 4 = holt) (hz : (l.drop 5).take 3 = [0, 0, 0]) :
    body (l.getD 4 0) (ofLe ((l.drop 8).take 8)) (ofLe ((l.drop 16).take 8)) 0 (l.drop 32) = blanked l := by
  unfold body blanked
  have e8 := le_ofLe ((l.drop 8).take 8)
  have e16 := le_ofLe ((l.drop 16).take 8)
  rw [take8_length l h _ (by decide)] at e8 e16
  rw [e8, e16, show le 8 0 = List.replicate 8 0 from by decide, ← h4]
  have e4 : [l.getD 4 0, 0, 0, 0] = (l.drop 4).take 4 := by
    rw [List.drop_eq_getElem_cons (by omega : 4 < l.length), List.take_succ_cons, hz]
    simp [List.getD, List.getElem?_eq_getElem (by omega : 4 < l.length)]
  rw [e4, ← List.append_assoc, ← List.append_assoc, ← List.append_assoc]
  congr 1
  have c : ∀ i n : Nat, l.take i ++ (l.drop i).take n = l.take (i + n) := fun i n => (List.take_add).symm
  rw [c, c, c]
theorem bt4 (l : List UInt8) (h : l.length = 512) (i : Nat) (hi : i < 512) : bt (str l) (i : Nat) = ((l.getD i 0).toNat : Nat) := by
  rw [bt_str l i (by omega)]; simp [List.getD, List.getElem?_eq_getElem (by omega : i < l.length)]
theorem beq_list (a b : List UInt8) : (a == b) = decide (a = b) := by
  by_cases h : a = b
  · subst h; simp
  · rw [decide_eq_false h]; exact beq_eq_false_iff_ne.2 h
theorem Open_is (l : List UInt8) (at_ : Nat) (hat : at_ < 18446744073709551616) (k : Nat) (hk : 600 ≤ k) : block_Open.f k (str l) at_ = some (openS l at_) := by
  unfold block_Open.f openS
  rw [str_size]
  by_cases h : l.length = 512
  case neg =>
    rw [if_neg (by omega), if_pos h]; rfl
  rw [if_pos (by omega), if_pos (by omega), if_pos (by omega), if_neg (show ¬ (l.length ≠ 512) from fun x => x h)]
  obtain ⟨k, rfl⟩ : ∃ m, k = m + 1 := ⟨k - 1, by omega⟩
  have bad : ∀ c0 c1 c2 c3 c4, block_Open.j0 (k + 1) (str l) at_ true c0 c1 c2 c3 c4 = some (0, 0, str [], 402) := fun _ _ _ _ _ => by simp only [block_Open.j0]; rw [if_pos trivial]; rfl
  have hpre : strings_HasPrefix.f (str l) (⟨#[72, 79, 76, 84]⟩ : ByteArray) = some (decide (l.take 4 = holt)) := by
    unfold strings_HasPrefix.f stringslite_HasPrefix.f
    rw [holt_str, str_size, str_size, if_pos (by simp [holt]; omega), if_pos (by simp [holt]), if_pos (by simp [holt]; omega)]
    simp only [Option.bind_some, str_extract', str_toList]
    rw [beq_list]; rfl
  rw [hpre]
  simp only [Option.bind_some]
  by_cases h4 : l.take 4 = holt
  case neg =>
    rw [if_neg (by simpa using h4), bad, if_pos (fun x => h4 x.1)]
  rw [if_pos (by simpa using h4), show (4 : Int) = ((4 : Nat) : Int) from rfl, bt4 l h 4 (by decide)]
  have hc := (l.getD 4 0).toNat_lt
  rw [w64 (by omega) (by omega)]
  unfold block_kinds.f
  by_cases hk1 : 1 ≤ (l.getD 4 0).toNat ∧ (l.getD 4 0).toNat ≤ 3
  case neg =>
    by_cases h1 : (((l.getD 4 0).toNat : Nat) : Int) ≥ 1
    · rw [if_pos h1, show decide ((((l.getD 4 0).toNat : Nat) : Int) ≤ 3) = false from decide_eq_false (by omega)]
      simp only [Option.bind_some]
      rw [if_neg (by decide), bad, if_pos (fun x => hk1 x.2.1)]
    · rw [if_neg h1]
      simp only [Option.bind_some]
      rw [if_neg (by decide), bad, if_pos (fun x => hk1 x.2.1)]
  rw [if_pos (show (((l.getD 4 0).toNat : Nat) : Int) ≥ 1 by omega), show decide ((((l.getD 4 0).toNat : Nat) : Int) ≤ 3) = true from decide_eq_true (by omega)]
  simp only [Option.bind_some]
  rw [if_pos trivial, if_pos (by decide), if_pos (by omega), str_extract', str_toList]
  by_cases hz : (l.drop 5).take (8 - 5) = [0, 0, 0]
  case neg =>
    rw [show ((l.drop 5).take (8 - 5) != ([0, 0, 0] : List UInt8)) = true from by rw [bne_iff_ne]; exact hz, bad, if_pos (fun x => hz x.2.2)]
  rw [show ((l.drop 5).take (8 - 5) != ([0, 0, 0] : List UInt8)) = false from by rw [bne_eq_false_iff_eq]; exact hz, if_neg (fun x => x ⟨h4, hk1, hz⟩)]
  simp only [block_Open.j0]
  rw [if_neg (by decide), if_pos (by decide), if_pos (by rw [str_size]; omega), str_extract', num_OfLe_ok _ (by rw [take8_length l h _ (by decide)]; decide) (by rw [take8_length l h _ (by decide)]; decide) k (by rw [take8_length l h _ (by decide)]; omega)]
  simp only [Option.bind_some]
  rw [if_pos (by decide), if_pos (by rw [str_size]; omega), str_extract', num_OfLe_ok _ (by rw [take8_length l h _ (by decide)]; decide) (by rw [take8_length l h _ (by decide)]; decide) k (by rw [take8_length l h _ (by decide)]; omega)]
  simp only [Option.bind_some]
  rw [if_pos (by decide), if_pos (by rw [str_size]; omega), str_extract', num_OfLe_ok _ (by rw [take8_length l h _ (by decide)]; decide) (by rw [take8_length l h _ (by decide)]; decide) k (by rw [take8_length l h _ (by decide)]; omega)]
  simp only [Option.bind_some]
  have h8 : ∀ i, i ≤ 504 → ofLe ((l.drop i).take 8) < 18446744073709551616 := fun i hi => by
    have := ofLe_lt ((l.drop i).take 8); rw [take8_length l h i hi] at this; exact this
  have he : (str l).extract 32 l.length = str (l.drop 32) := by rw [str_extract', List.take_of_length_le (by simp)]
  simp only [Nat.reduceSub]
  rw [he, show (0 : Int) = ((0 : Nat) : Int) from rfl, header _ _ _ _ _ (by simp; omega) (h8 8 (by decide)) (h8 16 (by decide)) (by decide) k (by omega)]
  simp only [Option.bind_some]
  rw [body_of l h h4 hz, sum_Of _ (by simp [blanked]; omega) k (by simp [blanked]; omega)]
  simp only [Option.bind_some]
  by_cases hs : ofLe ((l.drop 24).take 8) = fnv basis (blanked l)
  case neg =>
    rw [if_neg (by omega), if_pos hs]; rfl
  rw [if_pos (by omega), if_neg (show ¬ (ofLe ((l.drop 24).take 8) ≠ fnv basis (blanked l)) from fun x => x hs)]
  by_cases ha : ofLe ((l.drop 16).take 8) = at_
  case neg =>
    rw [if_neg (by omega), if_pos ha]; rfl
  rw [if_pos (by omega), if_neg (by simpa using ha)]
theorem ofLe8 (l : List UInt8) (h : l.length = 512) (i : Nat) (hi : i ≤ 504) : ofLe ((l.drop i).take 8) < 18446744073709551616 := by
  have := ofLe_lt ((l.drop i).take 8); rw [take8_length l h i hi] at this; exact this

/-! ### there and back -/
theorem sealed_take24 (kd : UInt8) (g a : Nat) (l : List UInt8) : (sealed kd g a l).take 24 = holt ++ ([kd, 0, 0, 0] ++ (le 8 g ++ le 8 a)) := by
  unfold sealed
  generalize fnv basis (body kd g a 0 (pad l)) = s
  unfold body
  rw [show holt ++ ([kd, 0, 0, 0] ++ (le 8 g ++ (le 8 a ++ (le 8 s ++ pad l)))) = (holt ++ ([kd, 0, 0, 0] ++ (le 8 g ++ le 8 a))) ++ (le 8 s ++ pad l) from by simp]
  exact List.take_left' (by simp [holt, le_length])
theorem sealed_drop24 (kd : UInt8) (g a : Nat) (l : List UInt8) : (sealed kd g a l).drop 24 = le 8 (fnv basis (body kd g a 0 (pad l))) ++ pad l := by
  unfold sealed
  generalize fnv basis (body kd g a 0 (pad l)) = s
  unfold body
  rw [show holt ++ ([kd, 0, 0, 0] ++ (le 8 g ++ (le 8 a ++ (le 8 s ++ pad l)))) = (holt ++ ([kd, 0, 0, 0] ++ (le 8 g ++ le 8 a))) ++ (le 8 s ++ pad l) from by simp]
  exact List.drop_left' (by simp [holt, le_length])
theorem sealed_drop32 (kd : UInt8) (g a : Nat) (l : List UInt8) : (sealed kd g a l).drop 32 = pad l := by
  rw [show 32 = 24 + 8 from rfl, ← List.drop_drop, sealed_drop24]
  exact List.drop_left' (le_length _ _)
theorem sealed_blank (kd : UInt8) (g a : Nat) (l : List UInt8) : blanked (sealed kd g a l) = body kd g a 0 (pad l) := by
  unfold blanked
  rw [sealed_take24, sealed_drop32]
  unfold body
  rw [show le 8 0 = List.replicate 8 0 from by decide]; simp
theorem sealed_sound (kd : UInt8) (g a : Nat) (l : List UInt8) : ofLe (((sealed kd g a l).drop 24).take 8) = fnv basis (blanked (sealed kd g a l)) := by
  rw [sealed_drop24, List.take_left' (le_length _ _), sealed_blank]
  exact ofLe_le 8 _ (fnv_lt _ _ (by decide))
theorem open_sealed (kd : UInt8) (g a at_ : Nat) (l : List UInt8) (h1 : 1 ≤ kd.toNat) (h3 : kd.toNat ≤ 3) (hg : g < 18446744073709551616) (ha : a < 18446744073709551616) (hl : l.length ≤ 480) :
    openS (sealed kd g a l) at_ = if a = at_ then (((kd.toNat : Nat) : Int), ((g : Nat) : Int), str (pad l), (0 : Int)) else ((0 : Int), (0 : Int), str [], (404 : Int)) := by
  unfold openS
  have h8 : (sealed kd g a l).drop 8 = le 8 g ++ (le 8 a ++ (le 8 (fnv basis (body kd g a 0 (pad l))) ++ pad l)) := rfl
  have h16 : (sealed kd g a l).drop 16 = le 8 a ++ (le 8 (fnv basis (body kd g a 0 (pad l))) ++ pad l) := by
    rw [show 16 = 8 + 8 from rfl, ← List.drop_drop, h8]; exact List.drop_left' (le_length _ _)
  have hd : (sealed kd g a l).getD 4 0 = kd := rfl
  rw [if_neg (by simpa using sealed_length kd g a l hl), if_neg (fun x => x ⟨rfl, by rw [hd]; exact ⟨h1, h3⟩, rfl⟩), if_neg (by simpa using sealed_sound kd g a l), h16, List.take_left' (le_length _ _), ofLe_le 8 a ha, hd, h8, List.take_left' (le_length _ _), ofLe_le 8 g hg, sealed_drop32]
  by_cases e : a = at_
  · rw [if_neg (by simpa using e), if_pos e]
  · rw [if_pos e, if_neg e]
end Go.Proofs.YtlkjfjpcphlfeaaDoor.Base
