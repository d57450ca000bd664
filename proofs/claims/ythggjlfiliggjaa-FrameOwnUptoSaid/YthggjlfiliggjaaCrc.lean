/- The sum's register in plain Lean: one bit's step T on 32 bits, its linearity and that it loses nothing, bytes, texts; and how the numbers of the program (whole numbers) stand to it. -/
import Derived.Laws.BitsLemmas
namespace Go.Proofs.Ythggjlfiliggjaa.Crc
set_option linter.unusedVariables false
set_option linter.unusedSimpArgs false

abbrev poly : BitVec 32 := 0xEDB88320#32

/-- One bit's step. -/
def T (r : BitVec 32) : BitVec 32 := if r.getLsbD 0 = true then (r >>> 1) ^^^ poly else r >>> 1

theorem T_xor (a b : BitVec 32) : T (a ^^^ b) = T a ^^^ T b := by
  unfold T
  rw [BitVec.getLsbD_xor, BitVec.ushiftRight_xor_distrib]
  cases a.getLsbD 0 <;> cases b.getLsbD 0 <;> simp
  · ac_rfl
  · ac_rfl
  · rw [show a >>> 1 ^^^ poly ^^^ (b >>> 1 ^^^ poly) = (a >>> 1 ^^^ b >>> 1) ^^^ (poly ^^^ poly) from by ac_rfl]
    simp

theorem T_zero : T 0#32 = 0#32 := by decide

/-- Nothing but nothing is stepped to nothing. -/
theorem T_eq_zero (a : BitVec 32) (h : T a = 0#32) : a = 0#32 := by
  unfold T at h
  split at h
  · rename_i h0
    have h1 := congrArg (fun v => v.getLsbD 31) h
    simp [BitVec.getLsbD_ushiftRight] at h1
    have h2 : a.getLsbD 32 = false := BitVec.getLsbD_of_ge a 32 (by omega)
    have h3 : poly.getLsbD 31 = true := by decide
    simp_all
  · rename_i h0
    apply BitVec.eq_of_getLsbD_eq
    intro i hi
    rcases i with _ | i
    · simpa using h0
    · have h1 := congrArg (fun v => v.getLsbD i) h
      simp [BitVec.getLsbD_ushiftRight] at h1
      rw [Nat.add_comm] at h1
      simpa using h1

def Tn : Nat → BitVec 32 → BitVec 32
  | 0, r => r
  | n + 1, r => Tn n (T r)

theorem Tn_xor (n : Nat) : ∀ a b : BitVec 32, Tn n (a ^^^ b) = Tn n a ^^^ Tn n b := by
  induction n with
  | zero => intro a b; rfl
  | succ n ih => intro a b; simp only [Tn, T_xor, ih]
theorem Tn_zero (n : Nat) : Tn n 0#32 = 0#32 := by
  induction n with
  | zero => rfl
  | succ n ih => simp only [Tn, T_zero, ih]
theorem Tn_eq_zero (n : Nat) : ∀ a, Tn n a = 0#32 → a = 0#32 := by
  induction n with
  | zero => intro a h; exact h
  | succ n ih => intro a h; exact T_eq_zero a (ih _ h)
theorem Tn_add (m n : Nat) : ∀ a, Tn (m + n) a = Tn n (Tn m a) := by
  induction m with
  | zero => intro a; simp [Tn]
  | succ m ih => intro a; rw [Nat.succ_add]; simp only [Tn]; exact ih _

/-- A byte, as 32 bits. -/
def B (c : Int) : BitVec 32 := BitVec.ofInt 32 c
def byte (r : BitVec 32) (c : Int) : BitVec 32 := Tn 8 (r ^^^ B c)
def reg (r : BitVec 32) (l : List Int) : BitVec 32 := l.foldl byte r
def ext (s : BitVec 32) (l : List Int) : BitVec 32 := ~~~ (reg (~~~ s) l)

theorem reg_nil (r : BitVec 32) : reg r [] = r := rfl
theorem reg_cons (r : BitVec 32) (c : Int) (l : List Int) : reg r (c :: l) = reg (byte r c) l := rfl
theorem reg_append (r : BitVec 32) (a b : List Int) : reg r (a ++ b) = reg (reg r a) b := by simp [reg, List.foldl_append]
theorem ext_append (s : BitVec 32) (a b : List Int) : ext s (a ++ b) = ext (ext s a) b := by simp [ext, reg_append]
theorem ext_nil (s : BitVec 32) : ext s [] = s := by simp [ext, reg]

/-- The reference's step of a register against a bit of a byte. -/
def T2 (a c : BitVec 32) : BitVec 32 := if a.getLsbD 0 = c.getLsbD 0 then a >>> 1 else (a >>> 1) ^^^ poly
theorem T_T2 (a c : BitVec 32) : T (a ^^^ c) = T2 a c ^^^ (c >>> 1) := by
  unfold T T2
  rw [BitVec.getLsbD_xor, BitVec.ushiftRight_xor_distrib]
  cases a.getLsbD 0 <;> cases c.getLsbD 0 <;> simp <;> ac_rfl
def U : Nat → BitVec 32 → BitVec 32 → BitVec 32
  | 0, r, _ => r
  | n + 1, r, c => U n (T2 r c) (c >>> 1)
theorem Tn_U (n : Nat) : ∀ r c : BitVec 32, Tn n (r ^^^ c) = U n r c ^^^ (c >>> n) := by
  induction n with
  | zero => intro r c; simp [Tn, U]
  | succ n ih =>
    intro r c
    simp only [Tn, U]
    rw [T_T2, ih]
    congr 1
    rw [← BitVec.shiftRight_add, Nat.add_comm]
theorem shr8_byte (c : Int) (h0 : 0 ≤ c) (h1 : c < 256) : B c >>> 8 = 0#32 := by
  obtain ⟨n, rfl⟩ := Int.eq_ofNat_of_zero_le h0
  apply BitVec.eq_of_toNat_eq
  simp only [B, BitVec.ofInt_natCast, BitVec.toNat_ushiftRight, BitVec.toNat_ofNat, Nat.shiftRight_eq_div_pow]
  omega
theorem byte_U (r : BitVec 32) (c : Int) (h0 : 0 ≤ c) (h1 : c < 256) : U 8 r (B c) = byte r c := by
  unfold byte
  rw [Tn_U, shr8_byte c h0 h1]
  simp

/-! ### the program's numbers -/
def V (b : BitVec 32) : Int := (b.toNat : Int)
theorem V_range (b : BitVec 32) : 0 ≤ V b ∧ V b < 4294967296 := by
  unfold V
  have := b.isLt
  omega
theorem V_of (n : Int) (h0 : 0 ≤ n) (h1 : n < 4294967296) : V (B n) = n := by
  obtain ⟨m, rfl⟩ := Int.eq_ofNat_of_zero_le h0
  simp only [V, B, BitVec.ofInt_natCast, BitVec.toNat_ofNat]
  omega
theorem V_inj {a b : BitVec 32} (h : V a = V b) : a = b := BitVec.eq_of_toNat_eq (by unfold V at h; omega)
theorem B_V (a : BitVec 32) : B (V a) = a := V_inj (V_of _ (V_range a).1 (V_range a).2)
theorem xor_V (a b : BitVec 32) : Go.bits .xor .u32 (V a) (V b) = V (a ^^^ b) := by
  have h := (a ^^^ b).isLt
  show IntKind.u32.wrap _ = _
  have e : ((BitVec.ofInt IntKind.u32.bits (V a) ^^^ BitVec.ofInt IntKind.u32.bits (V b)).toNat : Int) = V (a ^^^ b) := by
    show V (B (V a) ^^^ B (V b)) = _
    rw [B_V, B_V]
  rw [e, IntKind.wrap_u32]
  unfold V
  omega
theorem ones_V : (4294967295 : Int) = V (BitVec.allOnes 32) := by decide
theorem poly_V : (3988292384 : Int) = V poly := by decide
theorem not_V (a : BitVec 32) : Go.bits .xor .u32 4294967295 (V a) = V (~~~ a) := by
  rw [ones_V, xor_V, BitVec.allOnes_xor]
theorem xor_byte (a : BitVec 32) (c : Int) (h0 : 0 ≤ c) (h1 : c < 256) : Go.bits .xor .u32 (V a) (c % (4294967296 : Int)) = V (a ^^^ B c) := by
  have e : c % (4294967296 : Int) = V (B c) := by rw [V_of c h0 (by omega)]; omega
  rw [e, xor_V]
theorem half_V (a : BitVec 32) : V a / (2 : Int) = V (a >>> 1) := by
  simp only [V, BitVec.toNat_ushiftRight, Nat.shiftRight_eq_div_pow]
  omega
theorem odd_V (a : BitVec 32) : (V a % (2 : Int) = 1) ↔ a.getLsbD 0 = true := by
  simp only [V, BitVec.getLsbD, Nat.testBit_zero, decide_eq_true_eq]
  omega
theorem and_V (a : BitVec 32) : (Go.bits .and .u32 (V a) 1 = 1) ↔ a.getLsbD 0 = true := by
  have h := V_range a
  have e : Go.bits .and .u32 (V a) 1 = V a % (2 : Int) := by
    have := bits_mask .u32 32 (by decide) (fun n h0 h1 => by rw [IntKind.wrap_u32]; exact Int.emod_eq_of_lt h0 h1) 1 (by decide) (V a) h.1 h.2
    simpa using this
  rw [e, odd_V]
theorem tdiv_V (a : BitVec 32) : (Int.tdiv (V a) 2) % (4294967296 : Int) = V (a >>> 1) := by
  have h := V_range a
  rw [Int.tdiv_eq_ediv_of_nonneg h.1]
  have e := half_V a
  show V a / (2 : Int) % (4294967296 : Int) = _
  rw [e]
  have h2 := V_range (a >>> 1)
  exact Int.emod_eq_of_lt h2.1 h2.2
theorem tmod_V (a : BitVec 32) : Int.tmod (V a) 2 = if a.getLsbD 0 = true then 1 else 0 := by
  have h := V_range a
  rw [Int.tmod_eq_emod_of_nonneg h.1]
  have := odd_V a
  split <;> rename_i h1
  · exact this.2 h1
  · have h2 : ¬ V a % (2 : Int) = 1 := fun h => h1 (this.1 h)
    omega

/-! ### three texts -/
def xors (a b : List Int) : List Int := List.zipWith (fun x y => Go.bits .xor .u8 x y) a b
theorem xor_u8 (x y : Int) (hx0 : 0 ≤ x) (hx1 : x < 256) (hy0 : 0 ≤ y) (hy1 : y < 256) : B (Go.bits .xor .u8 x y) = B x ^^^ B y ∧ 0 ≤ Go.bits .xor .u8 x y ∧ Go.bits .xor .u8 x y < 256 := by
  obtain ⟨m, rfl⟩ := Int.eq_ofNat_of_zero_le hx0
  obtain ⟨n, rfl⟩ := Int.eq_ofNat_of_zero_le hy0
  have hm : m < 256 := by omega
  have hn : n < 256 := by omega
  have e : Go.bits .xor .u8 (m : Int) (n : Int) = ((m ^^^ n : Nat) : Int) := by
    show IntKind.u8.wrap _ = _
    have h2 : m ^^^ n < 256 := Nat.xor_lt_two_pow (n := 8) hm hn
    rw [IntKind.wrap_u8]
    have e2 : (BitVec.ofInt IntKind.u8.bits (m : Int) ^^^ BitVec.ofInt IntKind.u8.bits (n : Int)).toNat = m ^^^ n := by
      simp only [BitVec.ofInt_natCast, BitVec.toNat_xor, BitVec.toNat_ofNat]
      show m % 256 ^^^ n % 256 = _
      rw [Nat.mod_eq_of_lt hm, Nat.mod_eq_of_lt hn]
    show ((BitVec.ofInt IntKind.u8.bits (m : Int) ^^^ BitVec.ofInt IntKind.u8.bits (n : Int)).toNat : Int) % 256 = _
    rw [e2]
    omega
  have h2 : m ^^^ n < 256 := Nat.xor_lt_two_pow (n := 8) hm hn
  rw [e]
  refine ⟨?_, by omega, by omega⟩
  simp only [B, BitVec.ofInt_natCast]
  apply BitVec.eq_of_toNat_eq
  simp only [BitVec.toNat_ofNat, BitVec.toNat_xor]
  rw [Nat.mod_eq_of_lt (by omega), Nat.mod_eq_of_lt (by omega), Nat.mod_eq_of_lt (by omega)]
theorem byte_xor (r s : BitVec 32) (x y : Int) (hx0 : 0 ≤ x) (hx1 : x < 256) (hy0 : 0 ≤ y) (hy1 : y < 256) : byte (r ^^^ s) (Go.bits .xor .u8 x y) = byte r x ^^^ byte s y := by
  unfold byte
  rw [(xor_u8 x y hx0 hx1 hy0 hy1).1, ← Tn_xor]
  congr 1
  ac_rfl
def Bytes (l : List Int) : Prop := ∀ x ∈ l, 0 ≤ x ∧ x < 256
theorem Bytes.tail {x : Int} {l : List Int} (h : Bytes (x :: l)) : Bytes l := fun y hy => h y (List.mem_cons_of_mem _ hy)
theorem reg_xor : ∀ (a b : List Int) (r s : BitVec 32), a.length = b.length → Bytes a → Bytes b → reg (r ^^^ s) (xors a b) = reg r a ^^^ reg s b
  | [], [], r, s, _, _, _ => rfl
  | x :: a, y :: b, r, s, hl, ha, hb => by
    have hx := ha x (by simp)
    have hy := hb y (by simp)
    show reg (byte (r ^^^ s) (Go.bits .xor .u8 x y)) (xors a b) = _
    rw [byte_xor r s x y hx.1 hx.2 hy.1 hy.2]
    exact reg_xor a b _ _ (by simpa using hl) ha.tail hb.tail
  | [], _ :: _, _, _, h, _, _ => by simp at h
  | _ :: _, [], _, _, h, _, _ => by simp at h
theorem xors_bytes : ∀ (a b : List Int), Bytes a → Bytes b → Bytes (xors a b)
  | [], _, _, _ => by intro x hx; simp [xors] at hx
  | _ :: _, [], _, _ => by intro x hx; simp [xors] at hx
  | x :: a, y :: b, ha, hb => by
    have hx := ha x (by simp)
    have hy := hb y (by simp)
    intro z hz
    have hz' : z ∈ Go.bits .xor .u8 x y :: xors a b := hz
    rcases List.mem_cons.1 hz' with rfl | hz'
    · exact (xor_u8 x y hx.1 hx.2 hy.1 hy.2).2
    · exact xors_bytes a b ha.tail hb.tail z hz'
theorem ext_xors (a b c : List Int) (hab : a.length = b.length) (hac : a.length = c.length) (ha : Bytes a) (hb : Bytes b) (hc : Bytes c) :
    ext 0#32 (xors (xors a b) c) = ext 0#32 a ^^^ ext 0#32 b ^^^ ext 0#32 c := by
  unfold ext
  have e : (~~~ 0#32 : BitVec 32) = (~~~ 0#32 ^^^ ~~~ 0#32) ^^^ ~~~ 0#32 := by decide
  have hl : (xors a b).length = c.length := by simp [xors]; omega
  conv => lhs; rw [e]
  rw [reg_xor _ _ _ _ hl (xors_bytes a b ha hb) hc, reg_xor _ _ _ _ hab ha hb]
  apply BitVec.eq_of_getLsbD_eq
  intro i hi
  simp [hi]
end Go.Proofs.Ythggjlfiliggjaa.Crc
