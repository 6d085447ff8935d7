/- Plain facts on strings of bytes and numbers, as the printed functions spell them. No program in sight. -/
import Derived.Laws.BytesArg
import Derived.Laws.BitsAllLaws
import Derived.Lib.Repeat
import Derived.Test.YtlkjfjpcphlfeaaDoorWMore
set_option linter.unusedVariables false
set_option linter.unusedSimpArgs false
namespace Go.Proofs.YtlkjfjpcphlfeaaDoor.Base
open Go Go.RowKit Go.Proofs.YtlkjfjpcphlfeaaDoorW.PrintWords Go.Proofs.YtlkjfjpcphlfeaaDoorW.PrintLast Go.Proofs.YtlkjfjpcphlfeaaDoorW.PrintMore

/-- A string out of its bytes. -/
def str (l : List UInt8) : ByteArray := ⟨l.toArray⟩
theorem str_data (s : ByteArray) : str s.data.toList = s := by cases s; unfold str; rfl
theorem str_ex (s : ByteArray) : ∃ l, s = str l ∧ l.length = s.size := ⟨s.data.toList, (str_data s).symm, data_length s⟩
theorem str_size (l : List UInt8) : (str l).size = l.length := by simp [str, ByteArray.size]
theorem str_inj {a b : List UInt8} (h : str a = str b) : a = b := by simpa [str] using h
theorem str_append (a b : List UInt8) : str a ++ str b = str (a ++ b) := by
  apply ByteArray.ext; simp [str, ByteArray.data_append]
theorem str_extract (l : List UInt8) (i j : Nat) : (str l).extract i j = str ((l.take j).drop i) := by
  apply ByteArray.ext; simp [str, ByteArray.data_extract, List.extract_eq_take_drop]
  try rw [List.drop_take]
theorem str_toList (l : List UInt8) : (str l).toList = l := by rw [ByteArray.toList_eq]; simp [str]
theorem str_mk (l : List UInt8) : (⟨l.toArray⟩ : ByteArray) = str l := rfl
theorem str_nil : (⟨#[]⟩ : ByteArray) = str [] := rfl
theorem strOf (xs : List Int) : strOfNums xs = str (xs.map fun n => UInt8.ofNat n.toNat) := rfl
theorem bt_str (l : List UInt8) (i : Nat) (h : i < l.length) : bt (str l) i = ((l[i]).toNat : Int) := by
  unfold bt
  have : (i : Int).toNat < (str l).size := by simpa [str_size] using h
  rw [dif_pos this]
  rfl
theorem bt_str' (l : List UInt8) (i : Int) (h0 : 0 ≤ i) (h : i.toNat < l.length) : bt (str l) i = ((l[i.toNat]).toNat : Int) := by
  obtain ⟨n, rfl⟩ := Int.eq_ofNat_of_zero_le h0
  exact bt_str l n (by simpa using h)
theorem w64 {x : Int} (h0 : -9223372036854775808 ≤ x) (h1 : x ≤ 9223372036854775807) : wrap64 x = x := by unfold wrap64; omega
theorem u64_lt {x : Int} (h0 : 0 ≤ x) (h1 : x < 18446744073709551616) : IntKind.u64.wrap x = x := by rw [IntKind.wrap_u64]; omega
theorem u64_nat (x : Nat) : IntKind.u64.wrap (x : Int) = ((x % 18446744073709551616 : Nat) : Int) := by rw [IntKind.wrap_u64]; omega
theorem u8_lt (c : UInt8) : c.toNat < 256 := c.toNat_lt
theorem rep_zero (n : Nat) : Go.Lib.repeatL [0] n = List.replicate n (0 : UInt8) := by
  induction n with
  | zero => rfl
  | succ n ih => simp [Go.Lib.repeatL, ih, List.replicate_succ]
theorem wf_u64 {x : Int} (h : (Lit.int .u64 x).wf = true) : 0 ≤ x ∧ x < 18446744073709551616 := by
  simp [Lit.wf, IntKind.min, IntKind.max, IntKind.signed, IntKind.bits] at h; omega
theorem wf_i64 {x : Int} (h : (Lit.int .i64 x).wf = true) : -9223372036854775808 ≤ x ∧ x ≤ 9223372036854775807 := by
  simp [Lit.wf, IntKind.min, IntKind.max, IntKind.signed, IntKind.bits] at h; omega

/-! ### the lowest byte first -/
def le : Nat → Nat → List UInt8
  | 0, _ => []
  | n + 1, x => UInt8.ofNat (x % 256) :: le n (x / 256)
theorem le_length (n x : Nat) : (le n x).length = n := by
  induction n generalizing x with
  | zero => rfl
  | succ n ih => simp [le, ih]
theorem le_snoc (n x : Nat) : le (n + 1) x = le n x ++ [UInt8.ofNat (x / 256 ^ n % 256)] := by
  induction n generalizing x with
  | zero => simp [le]
  | succ n ih =>
    rw [le, ih, le, List.cons_append, Nat.div_div_eq_div_mul, Nat.pow_succ, Nat.mul_comm (256 ^ n) 256]
def ofLe : List UInt8 → Nat
  | [] => 0
  | c :: r => c.toNat + 256 * ofLe r
theorem ofLe_lt (l : List UInt8) : ofLe l < 256 ^ l.length := by
  induction l with
  | nil => simp [ofLe]
  | cons c r ih =>
    have := c.toNat_lt
    simp only [ofLe, List.length_cons, Nat.pow_succ]
    omega
theorem ofLe_append (a b : List UInt8) : ofLe (a ++ b) = ofLe a + 256 ^ a.length * ofLe b := by
  induction a with
  | nil => simp [ofLe]
  | cons c r ih =>
    simp only [List.cons_append, ofLe, ih, List.length_cons, Nat.pow_succ]
    rw [Nat.mul_add, ← Nat.mul_assoc, Nat.mul_comm 256 (256 ^ r.length)]; omega
theorem ofLe_snoc (a : List UInt8) (c : UInt8) : ofLe (a ++ [c]) = ofLe a + 256 ^ a.length * c.toNat := by rw [ofLe_append]; simp [ofLe]
theorem ofLe_le (n x : Nat) (h : x < 256 ^ n) : ofLe (le n x) = x := by
  induction n generalizing x with
  | zero => simp at h; simp [le, ofLe, h]
  | succ n ih =>
    rw [le, ofLe, ih (x / 256) (by rw [Nat.pow_succ] at h; omega)]
    have : (UInt8.ofNat (x % 256)).toNat = x % 256 := by simp [UInt8.toNat_ofNat']
    omega
theorem le_ofLe (l : List UInt8) : le l.length (ofLe l) = l := by
  induction l with
  | nil => rfl
  | cons c r ih =>
    have := c.toNat_lt
    simp only [ofLe, List.length_cons, le]
    have e1 : (c.toNat + 256 * ofLe r) % 256 = c.toNat := by omega
    have e2 : (c.toNat + 256 * ofLe r) / 256 = ofLe r := by omega
    rw [e1, e2, ih]; simp
theorem ofLe_inj {a b : List UInt8} (hl : a.length = b.length) (h : ofLe a = ofLe b) : a = b := by
  rw [← le_ofLe a, ← le_ofLe b, hl, h]
/-- bits that do not meet: 'or' is the sum. -/
theorem or_add (a b i : Nat) (h : a < 2 ^ i) : a ||| b * 2 ^ i = a + b * 2 ^ i := by
  rw [Nat.or_comm, Nat.mul_comm, Nat.two_pow_add_eq_or_of_lt h b |>.symm]; omega

/-! ### the sum -/
def fnv (h : Nat) : List UInt8 → Nat
  | [] => h
  | c :: r => fnv ((h ^^^ c.toNat) * 1099511628211 % 18446744073709551616) r
theorem fnv_append (h : Nat) (a b : List UInt8) : fnv h (a ++ b) = fnv (fnv h a) b := by
  induction a generalizing h with
  | nil => rfl
  | cons c r ih => simp [fnv, ih]
theorem fnv_lt (h : Nat) (l : List UInt8) (hh : h < 18446744073709551616) : fnv h l < 18446744073709551616 := by
  induction l generalizing h with
  | nil => exact hh
  | cons c r ih => exact ih _ (Nat.mod_lt _ (by decide))
theorem fnv_step (h : Nat) (c : UInt8) (hh : h < 18446744073709551616) : IntKind.u64.wrap ((Go.bits .xor .u64 (h : Int) (IntKind.u64.wrap (c.toNat : Int))) * 1099511628211) = (((h ^^^ c.toNat) * 1099511628211 % 18446744073709551616 : Nat) : Int) := by
  have hc := c.toNat_lt
  rw [u64_lt (x := (c.toNat : Int)) (by omega) (by omega), u64_xor_nat h c.toNat hh (by omega)]
  rw [show (((h ^^^ c.toNat : Nat) : Int) * 1099511628211) = (((h ^^^ c.toNat) * 1099511628211 : Nat) : Int) from by simp, u64_nat]
theorem fnv_take (h : Nat) (l : List UInt8) (i : Nat) (hi : i < l.length) : fnv h (l.take (i + 1)) = (fnv h (l.take i) ^^^ l[i].toNat) * 1099511628211 % 18446744073709551616 := by
  rw [List.take_succ_eq_append_getElem hi, fnv_append]; rfl
/-- The step is one to one in the sum, and in the byte. -/
theorem mul_inj {a b : Nat} (ha : a < 18446744073709551616) (hb : b < 18446744073709551616) (h : a * 1099511628211 % 18446744073709551616 = b * 1099511628211 % 18446744073709551616) : a = b := by
  have e : ∀ x : Nat, (x * 1099511628211 % 18446744073709551616) * 14886173955864302971 % 18446744073709551616 = x % 18446744073709551616 := by
    intro x
    rw [Nat.mod_mul_mod, Nat.mul_assoc]
    rw [Nat.mul_mod]
    simp
  have := e a
  rw [h, e b, Nat.mod_eq_of_lt ha, Nat.mod_eq_of_lt hb] at this
  exact this.symm
theorem xor_cancel {a b c : Nat} (h : a ^^^ c = b ^^^ c) : a = b := by
  have := congrArg (· ^^^ c) h
  simpa [Nat.xor_assoc] using this
theorem xor_lt64 {a : Nat} (c : UInt8) (ha : a < 18446744073709551616) : a ^^^ c.toNat < 18446744073709551616 := Nat.xor_lt_two_pow (n := 64) ha (by have := c.toNat_lt; omega)
theorem fnv_inj (l : List UInt8) {a b : Nat} (ha : a < 18446744073709551616) (hb : b < 18446744073709551616) (h : fnv a l = fnv b l) : a = b := by
  induction l generalizing a b with
  | nil => exact h
  | cons c r ih =>
    have := mul_inj (xor_lt64 c ha) (xor_lt64 c hb) (ih (Nat.mod_lt _ (by decide)) (Nat.mod_lt _ (by decide)) h)
    exact xor_cancel this
theorem fnv_turn (h : Nat) (p q : List UInt8) (c d : UInt8) (hh : h < 18446744073709551616) (hcd : c ≠ d) : fnv h (p ++ c :: q) ≠ fnv h (p ++ d :: q) := by
  intro e
  rw [fnv_append, fnv_append] at e
  have := fnv_inj q (Nat.mod_lt _ (by decide)) (Nat.mod_lt _ (by decide)) (show fnv _ q = fnv _ q from e)
  have hp := fnv_lt h p hh
  have := mul_inj (xor_lt64 c hp) (xor_lt64 d hp) this
  rw [Nat.xor_comm _ c.toNat, Nat.xor_comm _ d.toNat] at this
  exact hcd (UInt8.toNat_inj.1 (xor_cancel this))
end Go.Proofs.YtlkjfjpcphlfeaaDoor.Base
