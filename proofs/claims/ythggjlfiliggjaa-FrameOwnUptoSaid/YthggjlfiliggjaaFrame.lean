/- Frames in plain Lean: numbers as bytes, the frame of a kind, a generation and a body, what opens, and what the sum tells of it. -/
import Derived.Test.YthggjlfiliggjaaCrc
namespace Go.Proofs.Ythggjlfiliggjaa.Crc
set_option linter.unusedVariables false
set_option linter.unusedSimpArgs false

def le (x : Int) : Nat → List Int
  | 0 => []
  | n + 1 => (x % 256) :: le (x / 256) n
def num : List Int → Int
  | [] => 0
  | c :: l => c + 256 * num l
theorem le_length (n : Nat) : ∀ x, (le x n).length = n := by
  induction n with
  | zero => intro x; rfl
  | succ n ih => intro x; simp [le, ih]
theorem le_bytes (n : Nat) : ∀ x, Bytes (le x n) := by
  induction n with
  | zero => intro x y hy; cases hy
  | succ n ih =>
    intro x y hy
    rcases List.mem_cons.1 hy with rfl | hy
    · omega
    · exact ih _ y hy
theorem num_le (n : Nat) : ∀ x : Int, 0 ≤ x → x < 256 ^ n → num (le x n) = x := by
  induction n with
  | zero => intro x h0 h1; simp at h1; simp [le, num]; omega
  | succ n ih =>
    intro x h0 h1
    simp only [le, num]
    rw [ih (x / 256) (by omega) (by rw [Int.pow_succ] at h1; omega)]
    omega
theorem num_range : ∀ l : List Int, Bytes l → 0 ≤ num l ∧ num l < 256 ^ l.length
  | [], _ => by simp [num]
  | c :: l, h => by
    have hc := h c (by simp)
    have := num_range l h.tail
    simp only [num, List.length_cons, Int.pow_succ]
    omega
theorem le_num : ∀ l : List Int, Bytes l → le (num l) l.length = l
  | [], _ => rfl
  | c :: l, h => by
    have hc := h c (by simp)
    have := num_range l h.tail
    simp only [num, List.length_cons, le]
    rw [show (c + 256 * num l) % 256 = c by omega, show (c + 256 * num l) / 256 = num l by omega, le_num l h.tail]
theorem le_snoc (n : Nat) : ∀ x : Int, le x (n + 1) = le x n ++ [(x / 256 ^ n) % 256] := by
  induction n with
  | zero => intro x; simp [le]
  | succ n ih =>
    intro x
    rw [le, ih (x / 256), le]
    simp only [List.cons_append, List.cons.injEq, true_and]
    rw [Int.pow_succ', Int.ediv_ediv_of_nonneg (by decide)]
theorem num_snoc : ∀ (l : List Int) (c : Int), num (l ++ [c]) = num l + c * 256 ^ l.length
  | [], c => by simp [num]
  | a :: l, c => by
    simp only [List.cons_append, num, num_snoc l c, List.length_cons, Int.pow_succ]
    rw [Int.mul_add, Int.add_assoc]
    congr 2
    rw [Int.mul_comm 256, Int.mul_assoc]

theorem p2 : (256 : Int) ^ 2 = 65536 := by decide
theorem p4 : (256 : Int) ^ 4 = 4294967296 := by decide
theorem p8 : (256 : Int) ^ 8 = 18446744073709551616 := by decide
/-- The frame but for its sum; the frame. -/
def fb (kind gen : Int) (body : List Int) (size : Nat) : List Int :=
  [kind] ++ le (body.length : Int) 2 ++ le gen 8 ++ body ++ List.replicate (size - 15 - body.length) 0
def framed (kind gen : Int) (body : List Int) (size : Nat) : List Int :=
  fb kind gen body size ++ le (V (ext 0#32 (fb kind gen body size))) 4
theorem fb_length (kind gen : Int) (body : List Int) (size : Nat) (h : 15 ≤ size) (hb : body.length ≤ size - 15) : (fb kind gen body size).length = size - 4 := by
  simp [fb, le_length]
  omega
theorem framed_length (kind gen : Int) (body : List Int) (size : Nat) (h : 15 ≤ size) (hb : body.length ≤ size - 15) : (framed kind gen body size).length = size := by
  simp [framed, fb_length kind gen body size h hb, le_length]
  omega
theorem bytes_append {a b : List Int} (ha : Bytes a) (hb : Bytes b) : Bytes (a ++ b) := fun x hx => (List.mem_append.1 hx).elim (ha x) (hb x)
theorem bytes_zeros (n : Nat) : Bytes (List.replicate n 0) := by
  intro x hx
  have := List.eq_of_mem_replicate hx
  omega
theorem bytes_take' {l : List Int} (h : Bytes l) (n : Nat) : Bytes (l.take n) := fun x hx => h x (List.mem_of_mem_take hx)
theorem bytes_drop {l : List Int} (h : Bytes l) (n : Nat) : Bytes (l.drop n) := fun x hx => h x (List.mem_of_mem_drop hx)
theorem fb_bytes (kind gen : Int) (body : List Int) (size : Nat) (hk : 0 ≤ kind ∧ kind < 256) (hb : Bytes body) : Bytes (fb kind gen body size) := by
  unfold fb
  refine bytes_append (bytes_append (bytes_append (bytes_append ?_ (le_bytes _ _)) (le_bytes _ _)) hb) (bytes_zeros _)
  intro x hx
  simp at hx
  omega
theorem framed_bytes (kind gen : Int) (body : List Int) (size : Nat) (hk : 0 ≤ kind ∧ kind < 256) (hb : Bytes body) : Bytes (framed kind gen body size) :=
  bytes_append (fb_bytes kind gen body size hk hb) (le_bytes _ _)

/-! ### what opens -/
def okL (l : List Int) : Bool :=
  decide (15 ≤ l.length) && decide (l.length ≤ 8192) && decide (V (ext 0#32 (l.take (l.length - 4))) = num (l.drop (l.length - 4))) &&
    decide (num ((l.drop 1).take 2) ≤ (l.length : Int) - 15) && ((l.take (l.length - 4)).drop (11 + (num ((l.drop 1).take 2)).toNat)).all (fun x => x == 0)
def opened (l : List Int) : Int × Int × List Int × Int :=
  if okL l = true then (l.getD 0 0, num ((l.drop 3).take 8), (l.drop 11).take (num ((l.drop 1).take 2)).toNat, 0) else (0, 0, [], 20)

theorem take_app {a b : List Int} {n : Nat} (h : a.length = n) : (a ++ b).take n = a := by rw [← h]; simp
theorem drop_app {a b : List Int} {n : Nat} (h : a.length = n) : (a ++ b).drop n = b := by rw [← h]; simp

/-- The frame's pieces are where they are. -/
theorem fb_parts (kind gen : Int) (body : List Int) (size : Nat) (hl : body.length < 65536) (tl : List Int) :
    (fb kind gen body size ++ tl).getD 0 0 = kind ∧ ((fb kind gen body size ++ tl).drop 1).take 2 = le (body.length : Int) 2 ∧ ((fb kind gen body size ++ tl).drop 3).take 8 = le gen 8 ∧
      ((fb kind gen body size ++ tl).drop 11).take body.length = body := by
  have e1 : fb kind gen body size ++ tl = [kind] ++ (le (body.length : Int) 2 ++ (le gen 8 ++ (body ++ (List.replicate (size - 15 - body.length) 0 ++ tl)))) := by simp [fb]
  have l2 := le_length 2 (body.length : Int)
  have l8 := le_length 8 gen
  refine ⟨by rw [e1]; rfl, ?_, ?_, ?_⟩
  · rw [e1, drop_app (by rfl), take_app l2]
  · rw [e1, ← List.append_assoc, drop_app (by simp [l2]), take_app l8]
  · rw [e1, ← List.append_assoc, ← List.append_assoc, drop_app (by simp [l2, l8]), take_app rfl]

theorem okL_framed (kind gen : Int) (body : List Int) (size : Nat) (h : 15 ≤ size) (h8 : size ≤ 8192) (hb : body.length ≤ size - 15) : okL (framed kind gen body size) = true := by
  have hl := framed_length kind gen body size h hb
  have hf := fb_length kind gen body size h hb
  have hp := fb_parts kind gen body size (by omega) (le (V (ext 0#32 (fb kind gen body size))) 4)
  have hn : num (le (body.length : Int) 2) = (body.length : Int) := num_le 2 _ (by omega) (by rw [p2]; omega)
  have ht : (framed kind gen body size).take (size - 4) = fb kind gen body size := take_app hf
  have hd : (framed kind gen body size).drop (size - 4) = le (V (ext 0#32 (fb kind gen body size))) 4 := drop_app hf
  have hn2 : num (((framed kind gen body size).drop 1).take 2) = (body.length : Int) := by
    show num (((fb kind gen body size ++ _).drop 1).take 2) = _
    rw [hp.2.1, hn]
  have hv := V_range (ext 0#32 (fb kind gen body size))
  have hs : num (le (V (ext 0#32 (fb kind gen body size))) 4) = V (ext 0#32 (fb kind gen body size)) := num_le 4 _ hv.1 (by rw [p4]; omega)
  unfold okL
  rw [hl, ht, hd, hn2, hs, Int.toNat_natCast]
  have hz : (fb kind gen body size).drop (11 + body.length) = List.replicate (size - 15 - body.length) 0 := by
    unfold fb
    exact drop_app (by simp [le_length]; omega)
  rw [hz]
  simp only [Bool.and_eq_true, decide_eq_true_eq, List.all_eq_true]
  refine ⟨⟨⟨⟨h, h8⟩, trivial⟩, by omega⟩, ?_⟩
  intro x hx
  have := List.eq_of_mem_replicate hx
  simp [this]

theorem opened_framed (kind gen : Int) (body : List Int) (size : Nat) (h : 15 ≤ size) (h8 : size ≤ 8192) (hb : body.length ≤ size - 15) (hg : 0 ≤ gen ∧ gen < 18446744073709551616) :
    opened (framed kind gen body size) = (kind, gen, body, 0) := by
  have hp := fb_parts kind gen body size (by omega) (le (V (ext 0#32 (fb kind gen body size))) 4)
  have hn : num (le (body.length : Int) 2) = (body.length : Int) := num_le 2 _ (by omega) (by rw [p2]; omega)
  have hg8 : num (le gen 8) = gen := num_le 8 _ hg.1 (by rw [p8]; omega)
  unfold opened
  rw [if_pos (okL_framed kind gen body size h h8 hb)]
  show ((fb kind gen body size ++ _).getD 0 0, num (((fb kind gen body size ++ _).drop 3).take 8), ((fb kind gen body size ++ _).drop 11).take (num (((fb kind gen body size ++ _).drop 1).take 2)).toNat, (0 : Int)) = _
  rw [hp.1, hp.2.1, hp.2.2.1, hn, hg8, Int.toNat_natCast, hp.2.2.2]

/-- What opens is the frame of what it opens to. -/
theorem framed_of_ok (l : List Int) (hl : Bytes l) (h : okL l = true) :
    framed (l.getD 0 0) (num ((l.drop 3).take 8)) ((l.drop 11).take (num ((l.drop 1).take 2)).toNat) l.length = l ∧ ((l.drop 11).take (num ((l.drop 1).take 2)).toNat).length = (num ((l.drop 1).take 2)).toNat ∧
      (num ((l.drop 1).take 2)).toNat ≤ l.length - 15 ∧ 15 ≤ l.length ∧ l.length ≤ 8192 := by
  simp only [okL, Bool.and_eq_true, decide_eq_true_eq] at h
  obtain ⟨⟨⟨⟨h15, h8⟩, hs⟩, hn⟩, hz⟩ := h
  have hnr := num_range ((l.drop 1).take 2) (bytes_take' (bytes_drop hl 1) 2)
  obtain ⟨n, hn'⟩ := Int.eq_ofNat_of_zero_le hnr.1
  rw [hn', Int.toNat_natCast] at hz ⊢
  rw [hn'] at hn
  have hnn : n ≤ l.length - 15 := by omega
  have hbl : ((l.drop 11).take n).length = n := by rw [List.length_take, List.length_drop]; omega
  refine ⟨?_, hbl, hnn, h15, h8⟩
  -- the head
  have h2 : (l.drop 1).take 2 = le (n : Int) 2 := by
    have := le_num _ (bytes_take' (bytes_drop hl 1) 2)
    rw [hn'] at this
    rw [← this]
    congr 1
    rw [List.length_take, List.length_drop]; omega
  have h8' : (l.drop 3).take 8 = le (num ((l.drop 3).take 8)) 8 := by
    have := le_num _ (bytes_take' (bytes_drop hl 3) 8)
    have e : ((l.drop 3).take 8).length = 8 := by rw [List.length_take, List.length_drop]; omega
    rw [e] at this
    exact this.symm
  have hzz : (l.take (l.length - 4)).drop (11 + n) = List.replicate (l.length - 15 - n) 0 := by
    apply List.eq_replicate_iff.2
    refine ⟨by rw [List.length_drop, List.length_take]; omega, fun x hx => ?_⟩
    have := List.all_eq_true.1 hz x hx
    simpa using this
  have h0 : l.take 1 = [l.getD 0 0] := by
    rcases l with _ | ⟨c, l⟩
    · simp at h15
    · rfl
  have hfb : fb (l.getD 0 0) (num ((l.drop 3).take 8)) ((l.drop 11).take n) l.length = l.take (l.length - 4) := by
    unfold fb
    rw [hbl, ← h2, ← h8', ← hzz, ← h0]
    have s1 : l.take 1 ++ (l.drop 1).take 2 = l.take 3 := by rw [← List.take_add]
    have s2 : l.take 3 ++ (l.drop 3).take 8 = l.take 11 := by rw [← List.take_add]
    have s3 : l.take 11 ++ (l.drop 11).take n = l.take (11 + n) := by rw [← List.take_add]
    rw [s1, s2, s3]
    have s4 : l.take (11 + n) = (l.take (l.length - 4)).take (11 + n) := by rw [List.take_take, Nat.min_eq_left (by omega)]
    rw [s4, List.take_append_drop]
  have h4 : l.drop (l.length - 4) = le (num (l.drop (l.length - 4))) 4 := by
    have := le_num _ (bytes_drop hl (l.length - 4))
    have e : (l.drop (l.length - 4)).length = 4 := by rw [List.length_drop]; omega
    rw [e] at this
    exact this.symm
  unfold framed
  rw [hfb, hs, ← h4, List.take_append_drop]

/-! ### the sum of a whole frame -/
theorem U_low (n : Nat) : ∀ (r c d : BitVec 32), (∀ i, i < n → c.getLsbD i = d.getLsbD i) → U n r c = U n r d := by
  induction n with
  | zero => intro r c d _; rfl
  | succ n ih =>
    intro r c d h
    simp only [U]
    have e : T2 r c = T2 r d := by unfold T2; rw [h 0 (by omega)]
    rw [e]
    exact ih _ _ _ (fun i hi => by
      simp only [BitVec.getLsbD_ushiftRight]
      exact h (1 + i) (by omega))
theorem B_low (x : BitVec 32) (i : Nat) (hi : i < 8) : (B (V x % (256 : Int))).getLsbD i = x.getLsbD i := by
  have hm : V x % (256 : Int) = ((x.toNat % 256 : Nat) : Int) := by unfold V; omega
  rw [hm]
  unfold B
  rw [BitVec.ofInt_natCast]
  simp only [BitVec.getLsbD, BitVec.toNat_ofNat]
  have e : x.toNat % 256 % 2 ^ 32 = x.toNat % 2 ^ 8 := by omega
  rw [e, Nat.testBit_mod_two_pow]
  simp [hi]
theorem V_shr8 (x : BitVec 32) : V x / (256 : Int) = V (x >>> 8) := by
  simp only [V, BitVec.toNat_ushiftRight, Nat.shiftRight_eq_div_pow]
  omega
theorem reg_le (n : Nat) : ∀ (r x : BitVec 32), Tn (8 * n) (r ^^^ x) = reg r (le (V x) n) ^^^ (x >>> (8 * n)) := by
  induction n with
  | zero => intro r x; simp [Tn, le, reg]
  | succ n ih =>
    intro r x
    rw [show 8 * (n + 1) = 8 + 8 * n by omega, Tn_add, Tn_U, le, reg_cons]
    have e1 : U 8 r x = byte r (V x % (256 : Int)) := by
      rw [← byte_U r (V x % (256 : Int)) (by omega) (by omega)]
      exact U_low 8 r _ _ (fun i hi => (B_low x i hi).symm)
    rw [e1, V_shr8, ih (byte r (V x % (256 : Int))) (x >>> 8), BitVec.shiftRight_add]
/-- The register behind a whole frame is one number. -/
theorem reg_whole (r : BitVec 32) : reg r (le (V (~~~ r)) 4) = Tn 32 (BitVec.allOnes 32) := by
  have h := reg_le 4 r (~~~ r)
  have e1 : r ^^^ ~~~ r = BitVec.allOnes 32 := by
    apply BitVec.eq_of_getLsbD_eq
    intro i hi
    rw [BitVec.getLsbD_xor, BitVec.getLsbD_not, BitVec.getLsbD_allOnes]
    simp only [hi, decide_true, Bool.true_and]
    cases r.getLsbD i <;> rfl
  have e2 : (~~~ r) >>> (8 * 4) = 0#32 := by
    apply BitVec.eq_of_getLsbD_eq
    intro i hi
    simp only [BitVec.getLsbD_ushiftRight, BitVec.getLsbD_zero]
    exact BitVec.getLsbD_of_ge _ _ (by omega)
  rw [e1, e2, BitVec.xor_zero] at h
  exact h.symm
def chk (l : List Int) : BitVec 32 := reg (~~~ 0#32) l
theorem chk_framed (kind gen : Int) (body : List Int) (size : Nat) : chk (framed kind gen body size) = Tn 32 (BitVec.allOnes 32) := by
  unfold chk framed
  rw [reg_append]
  exact reg_whole _
theorem sum_framed (kind gen : Int) (body : List Int) (size : Nat) : V (ext 0#32 (framed kind gen body size)) = 558161692 := by
  have h : ext 0#32 (framed kind gen body size) = ~~~ (chk (framed kind gen body size)) := rfl
  rw [h, chk_framed]
  decide +kernel
theorem chk_of_ok (l : List Int) (hl : Bytes l) (h : okL l = true) : chk l = Tn 32 (BitVec.allOnes 32) := by
  have := (framed_of_ok l hl h).1
  rw [← this]
  exact chk_framed _ _ _ _

/-! ### zeros -/
def st (r : Nat) : Nat := bif Nat.beq (Nat.land r 1) 1 then Nat.xor (Nat.shiftRight r 1) 3988292384 else Nat.shiftRight r 1
def st8 (r : Nat) : Nat := st (st (st (st (st (st (st (st r)))))))
def noOnes : Nat → Nat → Bool
  | 0, _ => true
  | n + 1, r => bif Nat.beq r 4294967295 then false else noOnes n (st8 r)
theorem st_T (r : BitVec 32) : st r.toNat = (T r).toNat := by
  unfold st T
  have h1 : Nat.land r.toNat 1 = r.toNat % 2 := Nat.and_one_is_mod r.toNat
  have h2 : r.getLsbD 0 = decide (r.toNat % 2 = 1) := by simp [BitVec.getLsbD, Nat.testBit_zero]
  have h3 : Nat.shiftRight r.toNat 1 = (r >>> 1).toNat := by rw [BitVec.toNat_ushiftRight]; rfl
  rw [h1, h2, h3]
  by_cases h : r.toNat % 2 = 1
  · rw [h]
    simp [BitVec.toNat_xor]
  · have h0 : r.toNat % 2 = 0 := by omega
    rw [h0]
    simp
    rfl
theorem st8_T (r : BitVec 32) : st8 r.toNat = (Tn 8 r).toNat := by
  unfold st8
  simp only [st_T]
  rfl
theorem reg_zeros (n : Nat) : ∀ r, reg r (List.replicate n 0) = Tn (8 * n) r := by
  induction n with
  | zero => intro r; rfl
  | succ n ih =>
    intro r
    rw [List.replicate_succ, reg_cons, ih]
    have e : byte r 0 = Tn 8 r := by
      unfold byte B
      simp
    rw [e, ← Tn_add, show 8 + 8 * n = 8 * (n + 1) by omega]
theorem noOnes_spec (n : Nat) : ∀ r : BitVec 32, noOnes n r.toNat = true → ∀ j, j < n → Tn (8 * j) r ≠ BitVec.allOnes 32 := by
  induction n with
  | zero => intro r _ j hj; omega
  | succ n ih =>
    intro r h j hj
    simp only [noOnes] at h
    by_cases hb : Nat.beq r.toNat 4294967295 = true
    · rw [hb] at h; cases h
    · have hb' : Nat.beq r.toNat 4294967295 = false := Bool.eq_false_iff.2 hb
      rw [hb'] at h
      simp only [cond_false] at h
      rcases j with _ | j
      · intro he
        apply hb
        have : r = BitVec.allOnes 32 := he
        rw [this]
        decide
      · rw [show 8 * (j + 1) = 8 + 8 * j by omega, Tn_add]
        rw [st8_T] at h
        exact ih _ h j (by omega)
theorem noOnes_all : noOnes 8190 (Tn 8 (BitVec.allOnes 32)).toNat = true := by decide +kernel
theorem zeros_not_ok (n : Nat) : okL (List.replicate n 0) = false := by
  cases h : okL (List.replicate n 0) with
  | false => rfl
  | true =>
    simp only [okL, Bool.and_eq_true, decide_eq_true_eq, List.length_replicate] at h
    obtain ⟨⟨⟨⟨h15, h8⟩, hs⟩, hn⟩, hz⟩ := h
    exfalso
    rw [List.take_replicate, List.drop_replicate, Nat.min_eq_left (by omega)] at hs
    have e0 : ∀ k : Nat, num (List.replicate k 0) = 0 := by
      intro k
      induction k with
      | zero => rfl
      | succ k ih => rw [List.replicate_succ]; simp [num, ih]
    rw [e0] at hs
    have hv : ext 0#32 (List.replicate (n - 4) 0) = 0#32 := V_inj (by rw [hs]; decide)
    have hr : reg (~~~ 0#32) (List.replicate (n - 4) 0) = BitVec.allOnes 32 := by
      have h1 : ~~~ (reg (~~~ 0#32) (List.replicate (n - 4) 0)) = 0#32 := hv
      have h2 := congrArg (fun v => ~~~ v) h1
      simpa using h2
    rw [reg_zeros] at hr
    have h9 := noOnes_spec 8190 _ noOnes_all (n - 5) (by omega)
    rw [← Tn_add, show 8 + 8 * (n - 5) = 8 * (n - 4) by omega] at h9
    exact h9 (by simpa using hr)

/-! ### bursts -/
theorem reg_shift (l : List Int) : ∀ (r d : BitVec 32), reg (r ^^^ d) l = reg r l ^^^ Tn (8 * l.length) d := by
  induction l with
  | nil => intro r d; simp [reg, Tn]
  | cons c l ih =>
    intro r d
    have e : byte (r ^^^ d) c = byte r c ^^^ Tn 8 d := by
      unfold byte
      rw [← Tn_xor]
      congr 1
      ac_rfl
    rw [reg_cons, e, ih, reg_cons, List.length_cons, show 8 * (l.length + 1) = 8 + 8 * l.length by omega, Tn_add]
theorem Tn_shl (n : Nat) : ∀ (x : BitVec 32) (s : Nat), n ≤ s → s < 32 → Tn n (1#32 <<< s) = 1#32 <<< (s - n) := by
  induction n with
  | zero => intro x s _ _; rfl
  | succ n ih =>
    intro x s hs h32
    simp only [Tn]
    have e : T (1#32 <<< s) = 1#32 <<< (s - 1) := by
      have hb : (1#32 <<< s).getLsbD 0 = false := by
        rw [BitVec.getLsbD_shiftLeft, decide_eq_true (show 0 < s by omega)]
        simp
      unfold T
      rw [if_neg (by rw [hb]; decide)]
      obtain ⟨q, rfl⟩ : ∃ q, s = q + 1 := ⟨s - 1, by omega⟩
      have hq : (2 : Nat) ^ q ≤ 2 ^ 30 := Nat.pow_le_pow_right (by decide) (by omega)
      apply BitVec.eq_of_toNat_eq
      simp only [BitVec.toNat_ushiftRight, BitVec.toNat_shiftLeft, BitVec.toNat_ofNat, Nat.shiftLeft_eq, Nat.shiftRight_eq_div_pow, Nat.pow_succ, Nat.add_sub_cancel]
      omega
    rw [e, ih x (s - 1) (by omega) (by omega)]
    congr 1
    omega
/-- One bit turned: the register behind it all. -/
theorem reg_flip (l : List Int) (hl : Bytes l) (q s : Nat) (hq : q < l.length) (hs : s < 8) (r : BitVec 32) :
    reg r (l.set q (Go.bits .xor .u8 l[q] (2 ^ s : Nat))) = reg r l ^^^ Tn (8 * (l.length - q) - s) 1#32 := by
  have hb := hl l[q] (List.getElem_mem hq)
  have h2s : (2 : Nat) ^ s < 256 := by
    have : (2 : Nat) ^ s ≤ 2 ^ 7 := Nat.pow_le_pow_right (by decide) (by omega)
    omega
  have hx := xor_u8 l[q] ((2 ^ s : Nat) : Int) hb.1 hb.2 (Int.natCast_nonneg _) (by clear hl hb; revert h2s; generalize 2 ^ s = p; intro h; omega)
  rw [List.set_eq_take_append_cons_drop, if_pos hq, reg_append, reg_cons]
  have hl' : l = l.take q ++ l[q] :: l.drop (q + 1) := by rw [← List.drop_eq_getElem_cons hq, List.take_append_drop]
  have e1 : byte (reg r (l.take q)) (Go.bits .xor .u8 l[q] ((2 ^ s : Nat) : Int)) = byte (reg r (l.take q)) l[q] ^^^ Tn 8 (B ((2 ^ s : Nat) : Int)) := by
    unfold byte
    rw [hx.1, ← Tn_xor]
    congr 1
    ac_rfl
  have e2 : B ((2 ^ s : Nat) : Int) = 1#32 <<< s := by
    unfold B
    rw [BitVec.ofInt_natCast]
    apply BitVec.eq_of_toNat_eq
    rw [BitVec.toNat_ofNat, BitVec.toNat_shiftLeft, Nat.shiftLeft_eq, BitVec.toNat_ofNat]
    congr 1
    omega
  have e3 : Tn 8 (1#32 <<< s) = Tn (8 - s) 1#32 := by
    have h8 : Tn 8 (1#32 <<< s) = Tn (s + (8 - s)) (1#32 <<< s) := congrArg (fun n => Tn n (1#32 <<< s)) (by omega)
    rw [h8, Tn_add, Tn_shl s 0 s (Nat.le_refl _) (by omega), Nat.sub_self]
    rfl
  rw [e1, reg_shift, e2, e3, ← Tn_add]
  conv => rhs; rw [show reg r l = reg r (l.take q ++ l[q] :: l.drop (q + 1)) from congrArg (reg r) hl']
  rw [reg_append, reg_cons]
  congr 2
  rw [List.length_drop]
  omega
end Go.Proofs.Ythggjlfiliggjaa.Crc
