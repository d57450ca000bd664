/- What the printed functions of frames (the program's and the reference's) come to: the plain frames of Frame.lean. -/
import Derived.Test.YthggjlfiliggjaaQFrExt
import Derived.Test.YthggjlfiliggjaaFrame
namespace Go.Proofs.Ythggjlfiliggjaa.FrPure
open Go.RowKit Go.Proofs.Ythggjlfiliggjaa.QFr Go.Proofs.YthggjlfiliggjaaW.PrintWords Go.Proofs.YthggjlfiliggjaaW.PrintLast Go.Proofs.YthggjlfiliggjaaW.PrintMore Go.Proofs.Ythggjlfiliggjaa.Crc Go.Proofs.Ythggjlfiliggjaa.QFrExt
set_option linter.unusedVariables false
set_option linter.unusedSimpArgs false

theorem wrap_u64 (n : Int) : IntKind.u64.wrap n = n % 18446744073709551616 := by simp [IntKind.wrap, IntKind.bits, IntKind.signed]
theorem wrap_u64_id (n : Int) (h0 : 0 ≤ n) (h1 : n < 18446744073709551616) : IntKind.u64.wrap n = n := by rw [wrap_u64]; omega
theorem pow8 (i : Nat) : (2 : Int) ^ (8 * i) = 256 ^ i := by
  induction i with
  | zero => rfl
  | succ i ih => rw [Nat.mul_succ, Int.pow_add, ih, show (2 : Int) ^ 8 = 256 from by decide, ← Int.pow_succ]
theorem p256 (i : Nat) : (0 : Int) < 256 ^ i := Int.pow_pos (by decide)
theorem pow256_le {i j : Nat} (h : i ≤ j) : (256 : Int) ^ i ≤ 256 ^ j := by
  obtain ⟨d, rfl⟩ := Nat.exists_eq_add_of_le h
  rw [Int.pow_add]
  have h1 : (1 : Int) ≤ 256 ^ d := by have := p256 d; omega
  have h2 := Int.mul_le_mul_of_nonneg_left h1 (Int.le_of_lt (p256 i))
  rwa [Int.mul_one] at h2
theorem e7 : (256 : Int) ^ 7 = 72057594037927936 := by decide
theorem e64 : (2 : Int) ^ 64 = 18446744073709551616 := by decide
theorem wrap_8 (i : Nat) (hi : i ≤ 8) : wrap64 (8 * (i : Int)) = ((8 * i : Nat) : Int) := by
  unfold wrap64
  omega
theorem shr_8 (x : Int) (i : Nat) (hi : i ≤ 8) : shr .u64 x ((8 * i : Nat) : Int) = x / 256 ^ i := by
  show x / 2 ^ min ((8 * i : Nat) : Int).toNat (IntKind.u64.bits) = _
  rw [Int.toNat_natCast, show min (8 * i) IntKind.u64.bits = 8 * i from by show min (8 * i) 64 = _; omega, pow8]

/-! ### bytes of numbers -/
theorem put_l0 (l : List Int) (x : Int) (n : Nat) (hn8 : n ≤ 8) (hnl : n ≤ l.length) : ∀ (d k i : Nat), i + d = n → d < k →
    frame_put.l0 k (le x i ++ l.drop i) x (n : Int) (i : Int) = some (le x n ++ l.drop n) := by
  intro d
  induction d with
  | zero =>
    intro k i hi hk
    obtain ⟨k, rfl⟩ : ∃ m, k = m + 1 := ⟨k - 1, by omega⟩
    obtain rfl : i = n := by omega
    simp only [frame_put.l0]
    rw [if_neg (by omega)]
  | succ d ih =>
    intro k i hi hk
    obtain ⟨k, rfl⟩ : ∃ m, k = m + 1 := ⟨k - 1, by omega⟩
    have hlen : (le x i ++ l.drop i).length = l.length := by rw [List.length_append, le_length, List.length_drop]; omega
    simp only [frame_put.l0]
    rw [if_pos (by omega), wrap_8 i (by omega), if_pos (by omega), if_pos (by omega), if_pos (by rw [hlen]; omega), shr_8 x i (by omega), Int.toNat_natCast, wrap_up (by omega) (by omega)]
    have e : (le x i ++ l.drop i).set i (x / 256 ^ i % 256) = le x (i + 1) ++ l.drop (i + 1) := by
      rw [List.set_append_right _ _ (by rw [le_length]; omega), le_length, Nat.sub_self, List.drop_eq_getElem_cons (show i < l.length by omega), List.set_cons_zero, le_snoc, List.append_assoc]
      rfl
    rw [e]
    exact_mod_cast ih k (i + 1) (by omega) (by omega)
theorem put_is (l : List Int) (x : Int) (n : Nat) (hn8 : n ≤ 8) (hnl : n ≤ l.length) (k : Nat) (hk : n < k) : frame_put.f k l x (n : Int) = some (le x n ++ l.drop n) := by
  unfold frame_put.f
  have := put_l0 l x n hn8 hnl n k 0 (by omega) hk
  simpa [le] using this
theorem num_take_succ (l : List Int) (i : Nat) (hi : i < l.length) : num (l.take (i + 1)) = num (l.take i) + l[i] * 256 ^ i := by
  rw [List.take_succ_eq_append_getElem hi, num_snoc, List.length_take, Nat.min_eq_left (by omega)]
theorem bits_or_comm (k : IntKind) (a b : Int) : Go.bits .or k a b = Go.bits .or k b a := by
  simp only [Go.bits, BitVec.or_comm]
theorem or_join (x c : Int) (i : Nat) (hi : i < 8) (hx0 : 0 ≤ x) (hx : x < 256 ^ i) (hc0 : 0 ≤ c) (hc : c < 256) : Go.bits .or .u64 x (c * 256 ^ i) = x + c * 256 ^ i := by
  have hp := p256 i
  have h7 : (256 : Int) ^ i ≤ 256 ^ 7 := pow256_le (by omega)
  rw [e7] at h7
  have hlt : c * 256 ^ i < 2 ^ 64 := by
    have : c * 256 ^ i ≤ 255 * 256 ^ i := Int.mul_le_mul_of_nonneg_right (by omega) (by omega)
    rw [e64]
    omega
  rw [bits_or_comm, bits_join .u64 64 (by decide) (fun n h0 h1 => wrap_u64_id n h0 (by rw [e64] at h1; exact h1)) (8 * i) (c * 256 ^ i) x (Int.mul_nonneg hc0 (by omega)) (by rw [pow8]; exact Int.mul_emod_left _ _) hlt hx0 (by rw [pow8]; exact hx) (by rw [e64]; omega)]
  omega
theorem shl_8 (c : Int) (i : Nat) (hi : i < 8) (hc0 : 0 ≤ c) (hc : c < 256) : shl .u64 (IntKind.u64.wrap c) ((8 * i : Nat) : Int) = c * 256 ^ i := by
  have hp := p256 i
  have h7 : (256 : Int) ^ i ≤ 256 ^ 7 := pow256_le (by omega)
  rw [e7] at h7
  have hlt : c * 256 ^ i ≤ 255 * 256 ^ i := Int.mul_le_mul_of_nonneg_right (by omega) (by omega)
  show IntKind.u64.wrap (IntKind.u64.wrap c * 2 ^ min ((8 * i : Nat) : Int).toNat IntKind.u64.bits) = _
  rw [wrap_u64_id c hc0 (by omega), Int.toNat_natCast, show min (8 * i) IntKind.u64.bits = 8 * i from by show min (8 * i) 64 = _; omega, pow8, wrap_u64_id _ (Int.mul_nonneg hc0 (by omega)) (by omega)]
theorem get_l0 (l : List Int) (hb : Bytes l) (n : Nat) (hn8 : n ≤ 8) (hnl : n ≤ l.length) : ∀ (d k i : Nat), i + d = n → d < k →
    frame_get.l0 k l (num (l.take i)) (n : Int) (i : Int) = some (num (l.take n)) := by
  intro d
  induction d with
  | zero =>
    intro k i hi hk
    obtain ⟨k, rfl⟩ : ∃ m, k = m + 1 := ⟨k - 1, by omega⟩
    obtain rfl : i = n := by omega
    simp only [frame_get.l0]
    rw [if_neg (by omega)]
  | succ d ih =>
    intro k i hi hk
    obtain ⟨k, rfl⟩ : ∃ m, k = m + 1 := ⟨k - 1, by omega⟩
    have hil : i < l.length := by omega
    have hc := hb l[i] (List.getElem_mem hil)
    have hr := num_range (l.take i) (bytes_take' hb i)
    rw [List.length_take, Nat.min_eq_left (by omega)] at hr
    simp only [frame_get.l0]
    rw [if_pos (by omega), if_pos (by omega), if_pos (by omega), wrap_8 i (by omega), if_pos (by omega), rd_lt hil, shl_8 _ i (by omega) hc.1 hc.2, or_join _ _ i (by omega) hr.1 hr.2 hc.1 hc.2, wrap_up (by omega) (by omega), ← num_take_succ l i hil]
    exact_mod_cast ih k (i + 1) (by omega) (by omega)
theorem get_is (l : List Int) (hb : Bytes l) (n : Nat) (hn8 : n ≤ 8) (hnl : n ≤ l.length) (k : Nat) (hk : n < k) : frame_get.f k l (n : Int) = some (num (l.take n)) := by
  unfold frame_get.f
  have := get_l0 l hb n hn8 hnl n k 0 (by omega) hk
  simpa [num] using this
theorem low_l0 (n : Nat) (hn : n ≤ 8) : ∀ (d k i : Nat) (x : Int) (acc : List Int), i + d = n → d < k → 0 ≤ x → x < 18446744073709551616 → acc.length ≤ i →
    arborref2_low.l0 k x (n : Int) acc (i : Int) = some (acc ++ le x d) := by
  intro d
  induction d with
  | zero =>
    intro k i x acc hi hk h0 h1 ha
    obtain ⟨k, rfl⟩ : ∃ m, k = m + 1 := ⟨k - 1, by omega⟩
    simp only [arborref2_low.l0]
    rw [if_neg (by omega)]
    simp [le]
  | succ d ih =>
    intro k i x acc hi hk h0 h1 ha
    obtain ⟨k, rfl⟩ : ∃ m, k = m + 1 := ⟨k - 1, by omega⟩
    simp only [arborref2_low.l0]
    have e1 : Int.tmod x 256 % 256 = x % 256 := by rw [Int.tmod_eq_emod_of_nonneg h0]; omega
    have e2 : IntKind.u64.wrap (Int.tdiv x 256) = x / 256 := by rw [Int.tdiv_eq_ediv_of_nonneg h0, wrap_u64_id _ (by omega) (by omega)]
    rw [if_pos (by omega), if_pos (by omega), wrap_up (by omega) (by omega), e1, e2]
    have := ih k (i + 1) (x / 256) (acc ++ [x % 256]) (by omega) (by omega) (by omega) (by omega) (by rw [List.length_append]; simp; omega)
    rw [le, show acc ++ x % 256 :: le (x / 256) d = acc ++ [x % 256] ++ le (x / 256) d by simp]
    have ec : ((i : Int) + 1) = ((i + 1 : Nat) : Int) := by omega
    rw [ec]
    exact this
theorem low_is (n : Nat) (hn : n ≤ 8) (x : Int) (h0 : 0 ≤ x) (h1 : x < 18446744073709551616) (k : Nat) (hk : n < k) : arborref2_low.f k x (n : Int) = some (le x n) := by
  unfold arborref2_low.f
  have := low_l0 n hn n k 0 x [] (by omega) hk h0 h1 (by simp)
  simpa using this
theorem number_l0 (l : List Int) (hb : Bytes l) (at_ n : Nat) (hn8 : n ≤ 8) (hl : at_ + n ≤ l.length) (hlm : l.length ≤ 140737488355328) : ∀ (i k : Nat), i ≤ n → i < k →
    arborref2_Number.l0 k l (at_ : Int) (num ((l.drop (at_ + i)).take (n - i))) ((i : Int) - 1) = some (num ((l.drop at_).take n)) := by
  intro i
  induction i with
  | zero =>
    intro k hi hk
    obtain ⟨k, rfl⟩ : ∃ m, k = m + 1 := ⟨k - 1, by omega⟩
    simp only [arborref2_Number.l0]
    rw [if_neg (by omega)]
    simp
  | succ i ih =>
    intro k hi hk
    obtain ⟨k, rfl⟩ : ∃ m, k = m + 1 := ⟨k - 1, by omega⟩
    have hlt : at_ + i < l.length := by omega
    have hc := hb l[at_ + i] (List.getElem_mem hlt)
    have e0 : ((i + 1 : Nat) : Int) - 1 = (i : Int) := by omega
    have e1 : wrap64 ((at_ : Int) + (i : Int)) = ((at_ + i : Nat) : Int) := by unfold wrap64; omega
    have hr := num_range ((l.drop (at_ + (i + 1))).take (n - (i + 1))) (bytes_take' (bytes_drop hb _) _)
    have hp : (256 : Int) ^ ((l.drop (at_ + (i + 1))).take (n - (i + 1))).length ≤ 256 ^ 7 := pow256_le (by rw [List.length_take, List.length_drop]; omega)
    rw [e7] at hp
    simp only [arborref2_Number.l0]
    rw [e0, if_pos (by omega), e1, if_pos (by omega), if_pos (by omega), rd_lt hlt, wrap_u64_id l[at_ + i] hc.1 (by omega), wrap_u64_id (num _ * 256) (by omega) (by omega), wrap_u64_id _ (by omega) (by omega)]
    have e2 : num ((l.drop (at_ + (i + 1))).take (n - (i + 1))) * 256 + l[at_ + i] = num ((l.drop (at_ + i)).take (n - i)) := by
      rw [List.drop_eq_getElem_cons hlt, show n - i = (n - (i + 1)) + 1 by omega, List.take_succ_cons, num]
      rw [show at_ + i + 1 = at_ + (i + 1) by omega]
      omega
    have e3 : wrap64 ((i : Int) - 1) = (i : Int) - 1 := by unfold wrap64; omega
    rw [e2, e3]
    exact ih k (by omega) (by omega)
theorem number_is (l : List Int) (hb : Bytes l) (at_ n : Nat) (hn8 : n ≤ 8) (hl : at_ + n ≤ l.length) (hlm : l.length ≤ 140737488355328) (k : Nat) (hk : n < k) :
    arborref2_Number.f k l (at_ : Int) (n : Int) = some (num ((l.drop at_).take n)) := by
  unfold arborref2_Number.f
  have := number_l0 l hb at_ n hn8 hl hlm n k (Nat.le_refl _) hk
  rw [Nat.sub_self, List.take_zero] at this
  have e : wrap64 ((n : Int) - 1) = (n : Int) - 1 := by unfold wrap64; omega
  rw [e]
  exact this

/-! ### Seal -/
theorem fb_eq (kind gen : Int) (body : List Int) (m : Nat) (h15 : 15 ≤ m) (hl : body.length ≤ m - 15) :
    splice (([kind] ++ (le (body.length : Int) 2 ++ (List.replicate (m - 1) (0 : Int)).drop 2)).take 3 ++ (le gen 8 ++ (([kind] ++ (le (body.length : Int) 2 ++ (List.replicate (m - 1) (0 : Int)).drop 2)).drop 3).drop 8)) 11 body
      = fb kind gen body m ++ List.replicate 4 0 := by
  have l2 := le_length 2 (body.length : Int)
  have l8 := le_length 8 gen
  have e1 : ([kind] ++ (le (body.length : Int) 2 ++ (List.replicate (m - 1) (0 : Int)).drop 2)).take 3 = [kind] ++ le (body.length : Int) 2 := by
    rw [← List.append_assoc]
    exact take_app (by simp [l2])
  have e2 : ([kind] ++ (le (body.length : Int) 2 ++ (List.replicate (m - 1) (0 : Int)).drop 2)).drop 3 = List.replicate (m - 3) 0 := by
    rw [← List.append_assoc, drop_app (by simp [l2]), List.drop_replicate]
    congr 1
  rw [e1, e2, List.drop_replicate]
  unfold splice
  have e3 : ([kind] ++ le (body.length : Int) 2 ++ (le gen 8 ++ List.replicate (m - 3 - 8) 0)) = ([kind] ++ le (body.length : Int) 2 ++ le gen 8) ++ List.replicate (m - 3 - 8) 0 := by simp
  rw [e3, take_app (by simp [l2, l8])]
  have e4 : (([kind] ++ le (body.length : Int) 2 ++ le gen 8) ++ List.replicate (m - 3 - 8) 0).drop (11 + body.length) = List.replicate (m - 11 - body.length) 0 := by
    rw [show 11 + body.length = ([kind] ++ le (body.length : Int) 2 ++ le gen 8).length + body.length by simp [l2, l8], List.drop_append, List.drop_of_length_le (by omega)]
    simp
    omega
  rw [e4]
  unfold fb
  rw [show m - 11 - body.length = (m - 15 - body.length) + 4 by omega, ← List.replicate_append_replicate]
  simp
theorem seal_is (kind gen : Int) (body : List Int) (m : Nat) (hk : 0 ≤ kind ∧ kind < 256) (hb : Bytes body) (h15 : 15 ≤ m) (h8 : m ≤ 8192) (hl : body.length ≤ m - 15) (k : Nat) (hkk : 81930 < k) :
    frame_Seal.f k kind gen body (m : Int) = some (framed kind gen body m, 0) := by
  have hf := fb_length kind gen body m h15 hl
  have hfb := fb_eq kind gen body m h15 hl
  unfold frame_Seal.f
  rw [if_neg (by omega), if_neg (by omega), if_neg (by omega), Int.toNat_natCast, wrap_u64_id _ (by omega) (by omega)]
  have hp1 := put_is (List.replicate (m - 1) 0) (body.length : Int) 2 (by omega) (by simp; omega) k (by omega)
  rw [show ((2 : Nat) : Int) = 2 from rfl] at hp1
  rw [hp1]
  simp only [Option.bind_some]
  have hp2 := put_is (([kind] ++ (le (body.length : Int) 2 ++ (List.replicate (m - 1) (0 : Int)).drop 2)).drop 3) gen 8 (by omega) (by simp [le_length]; omega) k (by omega)
  rw [show ((8 : Nat) : Int) = 8 from rfl] at hp2
  rw [hp2]
  simp only [Option.bind_some]
  rw [hfb, take_app hf, drop_app hf, frame_sum _ (fb_bytes kind gen body m hk hb) (by omega) k (by omega)]
  simp only [Option.bind_some]
  have hv := V_range (ext 0#32 (fb kind gen body m))
  rw [wrap_u64_id _ hv.1 (by omega)]
  have hp4 := put_is (List.replicate 4 0) (V (ext 0#32 (fb kind gen body m))) 4 (by omega) (by simp) k (by omega)
  rw [show ((4 : Nat) : Int) = 4 from rfl] at hp4
  rw [hp4]
  simp [framed]
theorem ref_size (m : Int) : arborref2_IsSize.f m = some (decide (15 ≤ m ∧ m ≤ 8192)) := by
  unfold arborref2_IsSize.f
  by_cases h : m ≥ 15
  · rw [if_pos h]
    congr 1
    exact decide_eq_decide.2 (by omega)
  · rw [if_neg h, decide_eq_false (by omega)]
theorem ref_room (m : Int) (h : 15 ≤ m ∧ m ≤ 8192) : arborref2_Room.f m = some (m - 15) := by
  unfold arborref2_Room.f
  rw [ref_size, decide_eq_true h]
  simp only [Option.bind_some, if_true]
  congr 1
  unfold wrap64
  omega
theorem refSeal_l0 (kind gen : Int) (body : List Int) (m : Nat) (hk : 0 ≤ kind ∧ kind < 256) (hb : Bytes body) (h15 : 15 ≤ m) (h8 : m ≤ 8192) (hl : body.length ≤ m - 15) : ∀ (d k : Nat), d ≤ m - 15 - body.length → d + 81930 < k →
    arborref2_Seal.l0 k (m : Int) ([kind] ++ le (body.length : Int) 2 ++ le gen 8 ++ body ++ List.replicate (m - 15 - body.length - d) 0) = some (framed kind gen body m, 0) := by
  have l2 := le_length 2 (body.length : Int)
  have l8 := le_length 8 gen
  have hf := fb_length kind gen body m h15 hl
  have hv := V_range (ext 0#32 (fb kind gen body m))
  intro d
  induction d with
  | zero =>
    intro k hd hkk
    obtain ⟨k, rfl⟩ : ∃ q, k = q + 1 := ⟨k - 1, by omega⟩
    simp only [arborref2_Seal.l0]
    rw [Nat.sub_zero]
    show (if ((fb kind gen body m).length : Int) < wrap64 ((m : Int) - 4) then _ else ((arborref2_Sum.f k (fb kind gen body m)).bind fun t138 => ((arborref2_low.f k (IntKind.u64.wrap (t138)) 4).bind fun t139 => (if (fb kind gen body m).length + t139.length < 140737488355328 then (some ((fb kind gen body m ++ t139), 0)) else (none))))) = _
    have e : wrap64 ((m : Int) - 4) = (m : Int) - 4 := by unfold wrap64; omega
    rw [e, if_neg (by omega), ref_sum _ (fb_bytes kind gen body m hk hb) (by omega) k (by omega)]
    simp only [Option.bind_some]
    rw [wrap_u64_id _ hv.1 (by omega)]
    have hlow := low_is 4 (by omega) _ hv.1 (by omega) k (by omega)
    rw [show ((4 : Nat) : Int) = 4 from rfl] at hlow
    rw [hlow]
    simp only [Option.bind_some]
    rw [if_pos (by rw [hf, le_length]; omega)]
    rfl
  | succ d ih =>
    intro k hd hkk
    obtain ⟨k, rfl⟩ : ∃ q, k = q + 1 := ⟨k - 1, by omega⟩
    simp only [arborref2_Seal.l0]
    have e : wrap64 ((m : Int) - 4) = (m : Int) - 4 := by unfold wrap64; omega
    have hlen : ([kind] ++ le (body.length : Int) 2 ++ le gen 8 ++ body ++ List.replicate (m - 15 - body.length - (d + 1)) 0).length = m - 4 - (d + 1) := by simp [l2, l8]; omega
    rw [e, hlen, if_pos (by omega), if_pos (by omega)]
    have e2 : [kind] ++ le (body.length : Int) 2 ++ le gen 8 ++ body ++ List.replicate (m - 15 - body.length - (d + 1)) 0 ++ [0] = [kind] ++ le (body.length : Int) 2 ++ le gen 8 ++ body ++ List.replicate (m - 15 - body.length - d) 0 := by
      rw [List.append_assoc _ (List.replicate _ _), ← List.replicate_succ', show m - 15 - body.length - (d + 1) + 1 = m - 15 - body.length - d by omega]
    rw [e2]
    exact ih k (by omega) (by omega)
theorem refSeal_is (kind gen : Int) (body : List Int) (m : Nat) (hk : 0 ≤ kind ∧ kind < 256) (hg : 0 ≤ gen ∧ gen < 18446744073709551616) (hb : Bytes body) (h15 : 15 ≤ m) (h8 : m ≤ 8192) (hl : body.length ≤ m - 15) (k : Nat) (hkk : 90200 < k) :
    arborref2_Seal.f k kind gen body (m : Int) = some (framed kind gen body m, 0) := by
  have l2 := le_length 2 (body.length : Int)
  have l8 := le_length 8 gen
  unfold arborref2_Seal.f
  rw [ref_size, decide_eq_true (by omega), ref_room _ (by omega)]
  simp only [Option.bind_some, if_true]
  rw [if_neg (by omega), wrap_u64_id _ (by omega) (by omega)]
  have h2 := low_is 2 (by omega) (body.length : Int) (by omega) (by omega) k (by omega)
  have h8' := low_is 8 (by omega) gen hg.1 hg.2 k (by omega)
  rw [show ((2 : Nat) : Int) = 2 from rfl] at h2
  rw [show ((8 : Nat) : Int) = 8 from rfl] at h8'
  rw [h2]
  simp only [Option.bind_some]
  rw [if_pos (by simp [l2]), h8']
  simp only [Option.bind_some]
  rw [if_pos (by simp [l2, l8]), if_pos (by simp [l2, l8]; omega)]
  have := refSeal_l0 kind gen body m hk hb h15 h8 hl (m - 15 - body.length) k (Nat.le_refl _) (by omega)
  rw [Nat.sub_self] at this
  simpa using this

/-! ### Open -/
theorem okL_short (l : List Int) (h : (l.length : Int) < 15 ∨ (l.length : Int) > 8192) : okL l = false := by
  cases hh : okL l with
  | false => rfl
  | true =>
    simp only [okL, Bool.and_eq_true, decide_eq_true_eq] at hh
    omega
theorem opened_no {l : List Int} (h : okL l = false) : opened l = (0, 0, [], 20) := by
  unfold opened
  rw [h]
  rfl
theorem opened_yes {l : List Int} (h : okL l = true) : opened l = (l.getD 0 0, num ((l.drop 3).take 8), (l.drop 11).take (num ((l.drop 1).take 2)).toNat, 0) := by
  unfold opened
  rw [if_pos h]
theorem num2_lt (l : List Int) (hb : Bytes l) : 0 ≤ num ((l.drop 1).take 2) ∧ num ((l.drop 1).take 2) < 65536 := by
  have h := num_range ((l.drop 1).take 2) (bytes_take' (bytes_drop hb 1) 2)
  have hp : (256 : Int) ^ ((l.drop 1).take 2).length ≤ 256 ^ 2 := pow256_le (by rw [List.length_take]; omega)
  rw [p2] at hp
  omega
theorem num8_lt (l : List Int) (hb : Bytes l) : 0 ≤ num ((l.drop 3).take 8) ∧ num ((l.drop 3).take 8) < 18446744073709551616 := by
  have h := num_range ((l.drop 3).take 8) (bytes_take' (bytes_drop hb 3) 8)
  have hp : (256 : Int) ^ ((l.drop 3).take 8).length ≤ 256 ^ 8 := pow256_le (by rw [List.length_take]; omega)
  rw [p8] at hp
  omega
theorem open_is (l : List Int) (hb : Bytes l) (k : Nat) (hkk : 81930 < k) : frame_Open.f k l = some (opened l) := by
  unfold frame_Open.f
  by_cases h1 : (l.length : Int) < 15
  · rw [if_pos h1, opened_no (okL_short l (.inl h1))]
  rw [if_neg h1]
  by_cases h2 : (l.length : Int) > 8192
  · rw [if_pos h2, opened_no (okL_short l (.inr h2))]
  rw [if_neg h2, frame_sum _ (bytes_take' hb _) (by rw [List.length_take]; omega) k (by rw [List.length_take]; omega)]
  simp only [Option.bind_some]
  have hl4 : (l.drop (l.length - 4)).length = 4 := by rw [List.length_drop]; omega
  have g4 := get_is (l.drop (l.length - 4)) (bytes_drop hb _) 4 (by omega) (by omega) k (by omega)
  rw [List.take_of_length_le (by omega), show ((4 : Nat) : Int) = 4 from rfl] at g4
  rw [g4]
  simp only [Option.bind_some]
  have hv := V_range (ext 0#32 (l.take (l.length - 4)))
  rw [wrap_u64_id _ hv.1 (by omega)]
  have d15 : decide (15 ≤ l.length) = true := decide_eq_true (by omega)
  have d8 : decide (l.length ≤ 8192) = true := decide_eq_true (by omega)
  by_cases hs : V (ext 0#32 (l.take (l.length - 4))) = num (l.drop (l.length - 4))
  · rw [if_pos hs]
    have g2 := get_is (l.drop 1) (bytes_drop hb _) 2 (by omega) (by rw [List.length_drop]; omega) k (by omega)
    rw [show ((2 : Nat) : Int) = 2 from rfl] at g2
    rw [g2]
    simp only [Option.bind_some]
    have hn := num2_lt l hb
    have e : wrap64 (num ((l.drop 1).take 2)) = num ((l.drop 1).take 2) := by unfold wrap64; omega
    rw [e]
    by_cases hbig : num ((l.drop 1).take 2) > (l.length : Int) - 15
    · rw [if_pos hbig, opened_no]
      unfold okL
      rw [decide_eq_false (show ¬ num ((l.drop 1).take 2) ≤ (l.length : Int) - 15 by omega)]
      simp
    · rw [if_neg hbig, if_pos hn.1]
      have hok : okL l = ((l.take (l.length - 4)).drop (11 + (num ((l.drop 1).take 2)).toNat)).all (fun x => x == 0) := by
        unfold okL
        rw [d15, d8, decide_eq_true hs, decide_eq_true (show num ((l.drop 1).take 2) ≤ (l.length : Int) - 15 by omega)]
        simp
      rw [← hok]
      by_cases hz : okL l = true
      · rw [if_pos hz, opened_yes hz]
        have g8 := get_is (l.drop 3) (bytes_drop hb _) 8 (by omega) (by rw [List.length_drop]; omega) k (by omega)
        rw [show ((8 : Nat) : Int) = 8 from rfl] at g8
        rw [g8]
        simp only [Option.bind_some]
        rfl
      · rw [if_neg hz, opened_no (by simpa using hz)]
  · rw [if_neg hs, opened_no]
    unfold okL
    rw [decide_eq_false hs]
    simp
theorem rd_add (l : List Int) (i : Nat) (hi : 11 + i < l.length) : rd l ((11 + i : Nat) : Int) = l[11 + i] := rd_lt hi
theorem refOpen_l1 (l w : List Int) (a b : Int) (body : List Int) (hlw : w.length = l.length) (hlm : l.length ≤ 8192) : ∀ (d k i : Nat), i + d = l.length → d < k → (∀ j, j < i → rd w (j : Int) = rd l (j : Int)) →
    arborref2_Open.l1 k l w (i : Int) a b body = some (if w = l then (a, b, body, 0) else (0, 0, [], 20)) := by
  intro d
  induction d with
  | zero =>
    intro k i hi hk hp
    obtain ⟨k, rfl⟩ : ∃ q, k = q + 1 := ⟨k - 1, by omega⟩
    simp only [arborref2_Open.l1]
    rw [if_neg (by omega), if_pos]
    apply List.ext_getElem hlw
    intro j h1 h2
    have := hp j (by omega)
    rw [rd_lt h1, rd_lt h2] at this
    exact this
  | succ d ih =>
    intro k i hi hk hp
    obtain ⟨k, rfl⟩ : ∃ q, k = q + 1 := ⟨k - 1, by omega⟩
    simp only [arborref2_Open.l1]
    rw [if_pos (by omega), if_pos (by omega), if_pos (by omega)]
    by_cases he : rd w (i : Int) = rd l (i : Int)
    · rw [if_pos he, wrap_up (by omega) (by omega)]
      exact_mod_cast ih k (i + 1) (by omega) (by omega) (fun j hj => by
        by_cases hji : j = i
        · subst hji; exact he
        · exact hp j (by omega))
    · rw [if_neg he, if_neg]
      intro hwl
      subst hwl
      exact he rfl
theorem refOpen_l0 (l : List Int) (hb : Bytes l) (h15 : 15 ≤ l.length) (h8 : l.length ≤ 8192) (n : Nat) (hn : n ≤ l.length - 15) (a b : Int) (ha : 0 ≤ a ∧ a < 256) (hbb : 0 ≤ b ∧ b < 18446744073709551616) : ∀ (d k i : Nat), i + d = n → d + 100000 < k →
    arborref2_Open.l0 k l (n : Int) (i : Int) a b ((l.drop 11).take i) = some (if framed a b ((l.drop 11).take n) l.length = l then (a, b, (l.drop 11).take n, 0) else (0, 0, [], 20)) := by
  intro d
  induction d with
  | zero =>
    intro k i hi hk
    obtain ⟨k, rfl⟩ : ∃ q, k = q + 1 := ⟨k - 1, by omega⟩
    obtain rfl : i = n := by omega
    have hbl : ((l.drop 11).take i).length = i := by rw [List.length_take, List.length_drop]; omega
    simp only [arborref2_Open.l0]
    rw [if_neg (by omega), refSeal_is a b _ l.length ha hbb (bytes_take' (bytes_drop hb _) _) h15 h8 (by omega) k (by omega)]
    simp only [Option.bind_some, if_true]
    have := refOpen_l1 l (framed a b ((l.drop 11).take i) l.length) a b ((l.drop 11).take i) (framed_length _ _ _ _ h15 (by omega)) h8 l.length k 0 (by omega) (by omega) (fun j hj => by omega)
    exact_mod_cast this
  | succ d ih =>
    intro k i hi hk
    obtain ⟨k, rfl⟩ : ∃ q, k = q + 1 := ⟨k - 1, by omega⟩
    have e : wrap64 (11 + (i : Int)) = ((11 + i : Nat) : Int) := by unfold wrap64; omega
    simp only [arborref2_Open.l0]
    rw [if_pos (by omega), e, if_pos (by omega), if_pos (by omega), if_pos (by rw [List.length_take]; omega), rd_add l i (by omega), wrap_up (by omega) (by omega)]
    have e2 : (l.drop 11).take i ++ [l[11 + i]] = (l.drop 11).take (i + 1) := by
      rw [List.take_succ_eq_append_getElem (by rw [List.length_drop]; omega), List.getElem_drop]
    rw [e2]
    exact_mod_cast ih k (i + 1) (by omega) (by omega)
theorem refOpen_is (l : List Int) (hb : Bytes l) (hlm : l.length ≤ 140737488355328) (k : Nat) (hkk : 120000 < k) : arborref2_Open.f k l = some (opened l) := by
  unfold arborref2_Open.f
  rw [ref_size]
  simp only [Option.bind_some]
  by_cases h1 : (15 : Int) ≤ (l.length : Int) ∧ (l.length : Int) ≤ 8192
  case neg => rw [decide_eq_false h1, if_neg (by simp), opened_no (okL_short l (by omega))]
  rw [decide_eq_true h1, if_pos rfl, ref_room _ h1]
  have n2 := number_is l hb 1 2 (by omega) (by omega) hlm k (by omega)
  have n8 := number_is l hb 3 8 (by omega) (by omega) hlm k (by omega)
  rw [show ((1 : Nat) : Int) = 1 from rfl, show ((2 : Nat) : Int) = 2 from rfl] at n2
  rw [show ((3 : Nat) : Int) = 3 from rfl, show ((8 : Nat) : Int) = 8 from rfl] at n8
  rw [n2]
  simp only [Option.bind_some]
  have hn := num2_lt l hb
  have e : wrap64 (num ((l.drop 1).take 2)) = num ((l.drop 1).take 2) := by unfold wrap64; omega
  rw [e]
  by_cases hbig : num ((l.drop 1).take 2) > (l.length : Int) - 15
  · rw [if_pos hbig, opened_no]
    unfold okL
    rw [decide_eq_false (show ¬ num ((l.drop 1).take 2) ≤ (l.length : Int) - 15 by omega)]
    simp
  rw [if_neg hbig, if_pos (by omega), n8]
  simp only [Option.bind_some]
  obtain ⟨n, hnn⟩ := Int.eq_ofNat_of_zero_le hn.1
  rw [hnn]
  have h0 := hb l[0] (List.getElem_mem (by omega))
  have e0 : rd l 0 = l[0] := rd_lt (show 0 < l.length by omega)
  have e00 : l.getD 0 0 = l[0] := by simp [List.getD_eq_getElem?_getD, List.getElem?_eq_getElem (show 0 < l.length by omega)]
  have key := refOpen_l0 l hb (by omega) (by omega) n (by omega) (rd l 0) (num ((l.drop 3).take 8)) (by rw [e0]; exact h0) (num8_lt l hb) n k 0 (by omega) (by omega)
  rw [List.take_zero] at key
  refine Eq.trans key ?_
  congr 1
  by_cases hz : okL l = true
  · rw [opened_yes hz]
    have hf := (framed_of_ok l hb hz).1
    rw [hnn, Int.toNat_natCast, e00, ← e0] at hf
    rw [if_pos hf, hnn, Int.toNat_natCast, e00, e0]
  · rw [opened_no (by simpa using hz), if_neg]
    intro hf
    apply hz
    rw [← hf]
    exact okL_framed _ _ _ _ (by omega) (by omega) (by rw [List.length_take, List.length_drop]; omega)

/-! ### same -/
theorem same_l0 (a b : List Int) (hl : a.length = b.length) (hlm : a.length ≤ 140737488355328) : ∀ (d k i : Nat), i + d = a.length → d < k → (∀ j, j < i → rd a (j : Int) = rd b (j : Int)) →
    arborlaw2_same.l0 k a b (i : Int) = some (decide (a = b)) := by
  intro d
  induction d with
  | zero =>
    intro k i hi hk hp
    obtain ⟨k, rfl⟩ : ∃ q, k = q + 1 := ⟨k - 1, by omega⟩
    simp only [arborlaw2_same.l0]
    rw [if_neg (by omega), decide_eq_true]
    apply List.ext_getElem hl
    intro j h1 h2
    have := hp j (by omega)
    rw [rd_lt h1, rd_lt h2] at this
    exact this
  | succ d ih =>
    intro k i hi hk hp
    obtain ⟨k, rfl⟩ : ∃ q, k = q + 1 := ⟨k - 1, by omega⟩
    simp only [arborlaw2_same.l0]
    rw [if_pos (by omega), if_pos (by omega), if_pos (by omega)]
    by_cases he : rd a (i : Int) = rd b (i : Int)
    · rw [if_pos he, wrap_up (by omega) (by omega)]
      exact_mod_cast ih k (i + 1) (by omega) (by omega) (fun j hj => by
        by_cases hji : j = i
        · subst hji; exact he
        · exact hp j (by omega))
    · rw [if_neg he, decide_eq_false]
      intro hab
      subst hab
      exact he rfl
theorem same_is (a b : List Int) (hlm : a.length ≤ 140737488355328) (k : Nat) (hk : a.length < k) : arborlaw2_same.f k a b = some (decide (a = b)) := by
  unfold arborlaw2_same.f
  by_cases h : (a.length : Int) = (b.length : Int)
  · rw [if_pos h]
    have := same_l0 a b (by omega) hlm a.length k 0 (by omega) hk (fun j hj => by omega)
    exact_mod_cast this
  · rw [if_neg h, decide_eq_false]
    intro hab
    subst hab
    exact h rfl
theorem sameFrame_is (a b : Int) (l : List Int) (a' b' : Int) (l' : List Int) (hlm : l.length ≤ 140737488355328) (k : Nat) (hk : l.length < k) :
    arborlaw2_sameFrame.f k a b l a' b' l' = some (decide (a = a' ∧ b = b' ∧ l = l')) := by
  unfold arborlaw2_sameFrame.f
  by_cases h1 : a = a'
  · by_cases h2 : b = b'
    · rw [if_pos h1, if_pos h2, same_is l l' hlm k hk]
      simp [h1, h2]
    · rw [if_pos h1, if_neg h2, decide_eq_false (fun h => h2 h.2.1)]
  · rw [if_neg h1, decide_eq_false (fun h => h1 h.1)]
end Go.Proofs.Ythggjlfiliggjaa.FrPure
