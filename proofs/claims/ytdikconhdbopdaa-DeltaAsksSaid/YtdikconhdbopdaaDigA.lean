/-
  SHA-256: words, the standard in plain Lean, the schedule, the rounds, a block, as digest walks them. No condition.
-/
import Derived.Test.YtdikconhdbopdaaProg
import Derived.Test.YtdikconhdbopdaaBase
import Derived.Laws.BitsAllLaws
import Derived.Laws.ShiftsVarLaws
import Derived.RegionTactic
import Derived.ChangeAlike
import Derived.Deep.MidRow
import Derived.Laws.Rows
import Derived.StillTailTactics
import Derived.Test.YtdikconhdbopdaaRegInv
import Derived.Deep.RegionHeld3
namespace Go.Proofs.Ytdikconhdbopdaa
section
open Go.RowKit
set_option linter.unusedVariables false
set_option linter.unusedSimpArgs false

/-- A word's value. -/
def qv (x : UInt32) : Value := .int .u32 (x.toNat : Int)
/-- A word turned to the right. -/
def rotr (x : UInt32) (n : Nat) : UInt32 := x >>> UInt32.ofNat n ||| x <<< UInt32.ofNat (32 - n)

theorem u32_lt (x : UInt32) : x.toNat < 4294967296 := x.toNat_lt
theorem q_add (x y : UInt32) : IntKind.u32.wrap ((x.toNat : Int) + (y.toNat : Int)) = ((x + y).toNat : Int) := by
  rw [IntKind.wrap_u32', UInt32.toNat_add]; omega
theorem q_xor (x y : UInt32) : bits .xor .u32 (x.toNat : Int) (y.toNat : Int) = ((x ^^^ y).toNat : Int) := by
  rw [u32_xor_nat _ _ (u32_lt x) (u32_lt y), UInt32.toNat_xor]
theorem q_and (x y : UInt32) : bits .and .u32 (x.toNat : Int) (y.toNat : Int) = ((x &&& y).toNat : Int) := by
  rw [u32_and_nat _ _ (u32_lt x) (u32_lt y), UInt32.toNat_and]
theorem q_or (x y : UInt32) : bits .or .u32 (x.toNat : Int) (y.toNat : Int) = ((x ||| y).toNat : Int) := by
  rw [u32_or_nat _ _ (u32_lt x) (u32_lt y), UInt32.toNat_or]
theorem q_not (x : UInt32) : bits .xor .u32 4294967295 (x.toNat : Int) = ((~~~x).toNat : Int) := by
  have := u32_xor_nat 4294967295 x.toNat (by omega) (u32_lt x)
  rw [show ((4294967295 : Nat) : Int) = 4294967295 from rfl] at this
  rw [this]
  congr 1
theorem q_shr (x : UInt32) (n : Nat) (h : n < 32) : (x.toNat : Int) / 2 ^ n = ((x >>> UInt32.ofNat n).toNat : Int) := by
  rw [UInt32.toNat_shiftRight, UInt32.toNat_ofNat', Nat.mod_eq_of_lt (a := n % _) (by omega), Nat.mod_eq_of_lt (a := n) (by omega), Nat.shiftRight_eq_div_pow]
  simp
theorem q_shl (x : UInt32) (n : Nat) (h : n < 32) : IntKind.u32.wrap ((x.toNat : Int) * 2 ^ n) = ((x <<< UInt32.ofNat n).toNat : Int) := by
  rw [IntKind.wrap_u32', UInt32.toNat_shiftLeft, UInt32.toNat_ofNat', Nat.mod_eq_of_lt (a := n % _) (by omega), Nat.mod_eq_of_lt (a := n) (by omega), Nat.shiftLeft_eq]
  simp

theorem q_byte (x : UInt8) (n : Nat) (h : n < 32) : (x.toNat : Int) % 4294967296 * 2 ^ n % 4294967296 = ((x.toUInt32 <<< UInt32.ofNat n).toNat : Int) := by
  have := q_shl x.toUInt32 n h
  rw [IntKind.wrap_u32', UInt8.toNat_toUInt32] at this
  have h1 : (x.toNat : Int) % 4294967296 = x.toNat := by have := x.toNat_lt; omega
  rw [← this, h1]

theorem rot_count (n : Nat) (h1 : 1 ≤ n) (h2 : n ≤ 31) : bits .and .u64 (IntKind.u64.wrap (-(n : Int))) 31 = 32 - (n : Int) := by
  have : ∀ n : Fin 32, 1 ≤ n.val → bits .and .u64 (IntKind.u64.wrap (-(n.val : Int))) 31 = 32 - (n.val : Int) := by decide
  exact this ⟨n, by omega⟩ h1

set_option maxHeartbeats 400000 in
theorem rotl_calls (x : UInt32) (n : Nat) (h1 : 1 ≤ n) (h2 : n ≤ 31) (w : World) :
    Calls Try.prog 60 #[.int .u32 (x.toNat : Int), .int .i64 (-(n : Int))] w fun e w' => e = .returned (.int .u32 ((rotr x n).toNat : Int)) ∧ w = w' := by
  have e1 := rot_count n h1 h2
  go_enter Try.func60, Try.ntmps60
  go_wp2
  go_ret
  refine ⟨?_, rfl⟩
  have e2 := q_shl x (32 - n) (by omega)
  have e3 := q_shr x n (by omega)
  rw [IntKind.wrap_u32'] at e2
  show Ending.returned (Value.int IntKind.u32 (bits BinOp.or IntKind.u32 (↑x.toNat * 2 ^ (32 - n) % 4294967296) (↑x.toNat / 2 ^ (32 - (32 - n))))) = _
  rw [show 32 - (32 - n) = n by omega, e2, e3, q_or, UInt32.or_comm]
  rfl
theorem turn_calls (x : UInt32) (n : Nat) (h1 : 1 ≤ n) (h2 : n ≤ 31) (w : World) :
    Calls Try.prog 58 #[.int .u32 (x.toNat : Int), .int .i64 (n : Int)] w fun e w' => e = .returned (.int .u32 ((rotr x n).toNat : Int)) ∧ w = w' := by
  go_enter Try.func58, Try.ntmps58
  go_wp2_with (go_at_call 60; refine (rotl_calls x n h1 h2 _).mono ?_; rintro e w' ⟨rfl, rfl⟩)
  go_ret
  exact ⟨rfl, rfl⟩

/-- The same, at a number as the text has it, as a region that stands still wants it. -/
theorem turn_at (x : UInt32) (n : Nat) (z : Int) (hz : z = (n : Int)) (h1 : 1 ≤ n) (h2 : n ≤ 31) (w : World) :
    Calls Try.prog 58 #[.int .u32 (x.toNat : Int), .int .i64 z] w fun e w'' => e = .returned (.int .u32 ((rotr x n).toNat : Int)) ∧ w'' = w := by
  subst hz
  exact (turn_calls x n h1 h2 w).mono fun _ _ ⟨h1, h2⟩ => ⟨h1, h2.symm⟩
theorem turn_2 (x : UInt32) (w : World) : Calls Try.prog 58 #[.int .u32 (x.toNat : Int), .int .i64 2] w fun e w'' => e = .returned (.int .u32 ((rotr x 2).toNat : Int)) ∧ w'' = w := turn_at x 2 2 rfl (by decide) (by decide) w
theorem turn_6 (x : UInt32) (w : World) : Calls Try.prog 58 #[.int .u32 (x.toNat : Int), .int .i64 6] w fun e w'' => e = .returned (.int .u32 ((rotr x 6).toNat : Int)) ∧ w'' = w := turn_at x 6 6 rfl (by decide) (by decide) w
theorem turn_7 (x : UInt32) (w : World) : Calls Try.prog 58 #[.int .u32 (x.toNat : Int), .int .i64 7] w fun e w'' => e = .returned (.int .u32 ((rotr x 7).toNat : Int)) ∧ w'' = w := turn_at x 7 7 rfl (by decide) (by decide) w
theorem turn_11 (x : UInt32) (w : World) : Calls Try.prog 58 #[.int .u32 (x.toNat : Int), .int .i64 11] w fun e w'' => e = .returned (.int .u32 ((rotr x 11).toNat : Int)) ∧ w'' = w := turn_at x 11 11 rfl (by decide) (by decide) w
theorem turn_13 (x : UInt32) (w : World) : Calls Try.prog 58 #[.int .u32 (x.toNat : Int), .int .i64 13] w fun e w'' => e = .returned (.int .u32 ((rotr x 13).toNat : Int)) ∧ w'' = w := turn_at x 13 13 rfl (by decide) (by decide) w
theorem turn_17 (x : UInt32) (w : World) : Calls Try.prog 58 #[.int .u32 (x.toNat : Int), .int .i64 17] w fun e w'' => e = .returned (.int .u32 ((rotr x 17).toNat : Int)) ∧ w'' = w := turn_at x 17 17 rfl (by decide) (by decide) w
theorem turn_18 (x : UInt32) (w : World) : Calls Try.prog 58 #[.int .u32 (x.toNat : Int), .int .i64 18] w fun e w'' => e = .returned (.int .u32 ((rotr x 18).toNat : Int)) ∧ w'' = w := turn_at x 18 18 rfl (by decide) (by decide) w
theorem turn_19 (x : UInt32) (w : World) : Calls Try.prog 58 #[.int .u32 (x.toNat : Int), .int .i64 19] w fun e w'' => e = .returned (.int .u32 ((rotr x 19).toNat : Int)) ∧ w'' = w := turn_at x 19 19 rfl (by decide) (by decide) w
theorem turn_22 (x : UInt32) (w : World) : Calls Try.prog 58 #[.int .u32 (x.toNat : Int), .int .i64 22] w fun e w'' => e = .returned (.int .u32 ((rotr x 22).toNat : Int)) ∧ w'' = w := turn_at x 22 22 rfl (by decide) (by decide) w
theorem turn_25 (x : UInt32) (w : World) : Calls Try.prog 58 #[.int .u32 (x.toNat : Int), .int .i64 25] w fun e w'' => e = .returned (.int .u32 ((rotr x 25).toNat : Int)) ∧ w'' = w := turn_at x 25 25 rfl (by decide) (by decide) w

/-- Four bytes as a word, the greatest first. -/
def wordL (a b c d : UInt8) : UInt32 := a.toUInt32 <<< UInt32.ofNat 24 ||| b.toUInt32 <<< UInt32.ofNat 16 ||| c.toUInt32 <<< UInt32.ofNat 8 ||| d.toUInt32

set_option maxHeartbeats 400000 in
theorem word_calls (ad : Addr) (n c : Nat) (hn : 4 ≤ n) (hc : n ≤ 4611686018427387904) (x0 x1 x2 x3 : UInt8) (w : World)
    (h0 : w.cell? ad = some (.int .u8 (x0.toNat : Int))) (h1 : w.cell? ⟨ad.block, ad.off + 1, none⟩ = some (.int .u8 (x1.toNat : Int))) (h2 : w.cell? ⟨ad.block, ad.off + 2, none⟩ = some (.int .u8 (x2.toNat : Int))) (h3 : w.cell? ⟨ad.block, ad.off + 3, none⟩ = some (.int .u8 (x3.toNat : Int))) :
    Calls Try.prog 59 #[.slice (some ad) n c] w fun e w' => e = .returned (.int .u32 ((wordL x0 x1 x2 x3).toNat : Int)) ∧ ∃ k, w' = w.drewN k := by
  have hn0 : (0 : Int) < (n : Int) := by omega
  have hm0 : 0 < n := by omega
  have hm1 : 1 < n := by omega
  have hm2 : 2 < n := by omega
  have hm3 : 3 < n := by omega
  have hn1 : (1 : Int) < (n : Int) := by omega
  have hn2 : (2 : Int) < (n : Int) := by omega
  have hn3 : (3 : Int) < (n : Int) := by omega
  go_enter Try.func59, Try.ntmps59
  go_wp2
  go_quiet (fail)
  go_wp2
  go_ret
  refine ⟨?_, _, rfl⟩
  have e0 := q_byte x0 24 (by omega)
  have e1 := q_byte x1 16 (by omega)
  have e2 := q_byte x2 8 (by omega)
  have e3 : (x3.toNat : Int) % 4294967296 = (x3.toUInt32.toNat : Int) := by rw [UInt8.toNat_toUInt32]; have := x3.toNat_lt; omega
  show Ending.returned (Value.int IntKind.u32 (bits BinOp.or IntKind.u32 (bits BinOp.or IntKind.u32 (bits BinOp.or IntKind.u32 (↑x0.toNat % 4294967296 * 16777216 % 4294967296) (↑x1.toNat % 4294967296 * 65536 % 4294967296)) (↑x2.toNat % 4294967296 * 256 % 4294967296)) (↑x3.toNat % 4294967296))) = _
  rw [show (16777216 : Int) = 2 ^ 24 from rfl, show (65536 : Int) = 2 ^ 16 from rfl, show (256 : Int) = 2 ^ 8 from rfl, e0, e1, e2, e3, q_or, q_or, q_or]
  rfl
end

section
open Go.RowKit
set_option linter.unusedVariables false
set_option linter.unusedSimpArgs false

/-- The next word of the schedule, of those so far. -/
def nextW (l : List UInt32) (n : Nat) : UInt32 :=
  l.getD (n - 16) 0 + (rotr (l.getD (n - 15) 0) 7 ^^^ rotr (l.getD (n - 15) 0) 18 ^^^ l.getD (n - 15) 0 >>> UInt32.ofNat 3) + l.getD (n - 7) 0 + (rotr (l.getD (n - 2) 0) 17 ^^^ rotr (l.getD (n - 2) 0) 19 ^^^ l.getD (n - 2) 0 >>> UInt32.ofNat 10)
/-- A block's word. -/
def wordAt (b : List UInt8) (i : Nat) : UInt32 := wordL (b.getD (4 * i) 0) (b.getD (4 * i + 1) 0) (b.getD (4 * i + 2) 0) (b.getD (4 * i + 3) 0)
/-- The first n words of a block's schedule. -/
def sched (b : List UInt8) : Nat → List UInt32
  | 0 => []
  | n + 1 => sched b n ++ [if n < 16 then wordAt b n else nextW (sched b n) n]
theorem sched_length (b : List UInt8) : ∀ n, (sched b n).length = n
  | 0 => rfl
  | n + 1 => by rw [sched, List.length_append, sched_length b n]; rfl
/-- Eight words. -/
structure St where mk :: (a : UInt32) (b : UInt32) (c : UInt32) (d : UInt32) (e : UInt32) (f : UInt32) (g : UInt32) (h : UInt32)
/-- Their values. -/
def St.vs (s : St) : Array Value := #[qv s.a, qv s.b, qv s.c, qv s.d, qv s.e, qv s.f, qv s.g, qv s.h]
def rOne (s : St) (k w : UInt32) : UInt32 := s.h + (rotr s.e 6 ^^^ rotr s.e 11 ^^^ rotr s.e 25) + (s.e &&& s.f ^^^ ~~~s.e &&& s.g) + k + w
def rTwo (s : St) : UInt32 := (rotr s.a 2 ^^^ rotr s.a 13 ^^^ rotr s.a 22) + (s.a &&& s.b ^^^ s.a &&& s.c ^^^ s.b &&& s.c)
/-- A round. -/
def rnd (s : St) (k w : UInt32) : St := ⟨rOne s k w + rTwo s, s.a, s.b, s.c, s.d + rOne s k w, s.e, s.f, s.g⟩
def Ks : List UInt32 := [1116352408, 1899447441, 3049323471, 3921009573, 961987163, 1508970993, 2453635748, 2870763221, 3624381080, 310598401, 607225278, 1426881987, 1925078388, 2162078206, 2614888103, 3248222580, 3835390401, 4022224774, 264347078, 604807628, 770255983, 1249150122, 1555081692, 1996064986, 2554220882, 2821834349, 2952996808, 3210313671, 3336571891, 3584528711, 113926993, 338241895, 666307205, 773529912, 1294757372, 1396182291, 1695183700, 1986661051, 2177026350, 2456956037, 2730485921, 2820302411, 3259730800, 3345764771, 3516065817, 3600352804, 4094571909, 275423344, 430227734, 506948616, 659060556, 883997877, 958139571, 1322822218, 1537002063, 1747873779, 1955562222, 2024104815, 2227730452, 2361852424, 2428436474, 2756734187, 3204031479, 3329325298]
/-- The first n rounds. -/
def rnds (ws : List UInt32) (s : St) : Nat → St
  | 0 => s
  | n + 1 => rnd (rnds ws s n) (Ks.getD n 0) (ws.getD n 0)
def St.add (s t : St) : St := ⟨s.a + t.a, s.b + t.b, s.c + t.c, s.d + t.d, s.e + t.e, s.f + t.f, s.g + t.g, s.h + t.h⟩
/-- A block is taken in. -/
def stepL (s : St) (b : List UInt8) : St := (rnds (sched b 64) s 64).add s
def St0 : St := ⟨1779033703, 3144134277, 1013904242, 2773480762, 1359893119, 2600822924, 528734635, 1541459225⟩
/-- Whole blocks are taken in. -/
def blocksL (s : St) : Nat → List UInt8 → St
  | 0, _ => s
  | n + 1, m => blocksL (stepL s (m.take 64)) n (m.drop 64)
def bytesW (x : UInt32) : List UInt8 := [(x >>> 24).toUInt8, (x >>> 16).toUInt8, (x >>> 8).toUInt8, x.toUInt8]
def St.bytes (s : St) : List UInt8 := bytesW s.a ++ bytesW s.b ++ bytesW s.c ++ bytesW s.d ++ bytesW s.e ++ bytesW s.f ++ bytesW s.g ++ bytesW s.h
/-- How many bytes of nothing stand behind the mark. -/
def zerosN (n : Nat) : Nat := (119 - n % 64) % 64
/-- The length in bits, eight bytes, the greatest first. -/
def lenB (n : Nat) : List UInt8 := [UInt8.ofNat (n * 8 / 2 ^ 56), UInt8.ofNat (n * 8 / 2 ^ 48), UInt8.ofNat (n * 8 / 2 ^ 40), UInt8.ofNat (n * 8 / 2 ^ 32), UInt8.ofNat (n * 8 / 2 ^ 24), UInt8.ofNat (n * 8 / 2 ^ 16), UInt8.ofNat (n * 8 / 2 ^ 8), UInt8.ofNat (n * 8)]
def padL (n : Nat) : List UInt8 := 128 :: (List.replicate (zerosN n) 0 ++ lenB n)
/-- The sum. -/
def shaL (b : List UInt8) : List UInt8 := (blocksL St0 ((b ++ padL b.length).length / 64) (b ++ padL b.length)).bytes
end

section
open Go.RowKit
set_option linter.unusedVariables false
set_option linter.unusedSimpArgs false

theorem blocksL_succ (n : Nat) : ∀ (s : St) (m : List UInt8), blocksL s (n + 1) m = stepL (blocksL s n m) ((m.drop (64 * n)).take 64) := by
  induction n with
  | zero => intro s m; rfl
  | succ n ih =>
    intro s m
    rw [blocksL, ih, blocksL, List.drop_drop]
    congr 3
    omega
theorem blocksL_add (p : Nat) : ∀ (q : Nat) (s : St) (m : List UInt8), blocksL s (p + q) m = blocksL (blocksL s p m) q (m.drop (64 * p)) := by
  induction p with
  | zero => intro q s m; rw [Nat.zero_add]; rfl
  | succ p ih =>
    intro q s m
    rw [show p + 1 + q = (p + q) + 1 by omega, blocksL, ih, blocksL, List.drop_drop]
    congr 2
    omega
theorem blocksL_app (n : Nat) : ∀ (s : St) (m x : List UInt8), 64 * n ≤ m.length → blocksL s n (m ++ x) = blocksL s n m := by
  induction n with
  | zero => intro s m x _; rfl
  | succ n ih =>
    intro s m x h
    rw [blocksL, blocksL, List.take_append_of_le_length (by omega), List.drop_append_of_le_length (by omega), ih _ _ _ (by rw [List.length_drop]; omega)]
/-- What waits. -/
def waitL (m : List UInt8) : List UInt8 := m.drop (64 * (m.length / 64))
theorem waitL_length (m : List UInt8) : (waitL m).length = m.length % 64 := by rw [waitL, List.length_drop]; omega
/-- What was taken in. -/
def stL (m : List UInt8) : St := blocksL St0 (m.length / 64) m
theorem stL_app (m x : List UInt8) (j : Nat) (h1 : 64 * j ≤ (waitL m ++ x).length) (h2 : (waitL m ++ x).length < 64 * j + 64) : blocksL (stL m) j (waitL m ++ x) = stL (m ++ x) ∧ (waitL m ++ x).drop (64 * j) = waitL (m ++ x) := by
  have hl := waitL_length m
  have he : m.drop (64 * (m.length / 64)) ++ x = (m ++ x).drop (64 * (m.length / 64)) := by rw [List.drop_append_of_le_length (by omega)]
  rw [List.length_append, hl] at h1 h2
  have hj : (m ++ x).length / 64 = m.length / 64 + j := by rw [List.length_append]; omega
  constructor
  · rw [stL, stL, hj, blocksL_add, ← he]
    have hlt : 64 * (m.length / 64) ≤ m.length := by omega
    rw [blocksL_app (m.length / 64) St0 m x hlt]
    rfl
  · rw [waitL, waitL, hj, he, List.drop_drop]
    congr 1
    omega

/-- The padding so far: the mark and j bytes of nothing. -/
def padZ (j : Nat) : List UInt8 := 128 :: List.replicate j 0
theorem padZ_length (j : Nat) : (padZ j).length = j + 1 := by simp [padZ]
theorem padZ_succ (j : Nat) : padZ j ++ [0] = padZ (j + 1) := by rw [padZ, padZ, List.replicate_succ', List.cons_append]
theorem zerosN_lt (n : Nat) : zerosN n < 64 := by unfold zerosN; omega
theorem zeros_go (n j : Nat) (h : j < zerosN n) : (n + (j + 1)) % 64 ≠ 56 := by unfold zerosN at h; omega
theorem zeros_end (n : Nat) : (n + (zerosN n + 1)) % 64 = 56 := by unfold zerosN; omega
/-- The length's byte of place m. -/
def lenAt (n m : Nat) : UInt8 := UInt8.ofNat (n * 8 / 2 ^ (8 * (7 - m)))
def lenN (n : Nat) : Nat → List UInt8
  | 0 => []
  | m + 1 => lenN n m ++ [lenAt n m]
theorem lenN_length (n : Nat) : ∀ m, (lenN n m).length = m
  | 0 => rfl
  | m + 1 => by rw [lenN, List.length_append, lenN_length n m]; rfl
theorem lenN_eight (n : Nat) : lenN n 8 = lenB n := by
  have e : lenAt n 7 = UInt8.ofNat (n * 8) := by
    unfold lenAt
    rw [show 8 * (7 - 7) = 0 from rfl, Nat.pow_zero, Nat.div_one]
  show [lenAt n 0, lenAt n 1, lenAt n 2, lenAt n 3, lenAt n 4, lenAt n 5, lenAt n 6, lenAt n 7] = _
  rw [e]
  rfl
theorem padL_eq (n : Nat) : padL n = padZ (zerosN n) ++ lenN n 8 := by rw [lenN_eight]; rfl
theorem padL_length (n : Nat) : (padL n).length = zerosN n + 9 := by
  rw [padL_eq, List.length_append, padZ_length, lenN_length]
theorem lenAt_value (n m : Nat) : ((n : Int) * 8 / 2 ^ (8 * (7 - m))) % 256 = ((lenAt n m).toNat : Int) := by
  unfold lenAt
  rw [UInt8.toNat_ofNat']
  rfl
theorem shaL_eq (b : List UInt8) : shaL b = (stL (b ++ padL b.length)).bytes := rfl
/-- The first k words' bytes. -/
def outL (s : St) : Nat → List UInt8
  | 0 => []
  | k + 1 => outL s k ++ bytesW (([s.a, s.b, s.c, s.d, s.e, s.f, s.g, s.h] : List UInt32).getD k 0)
theorem outL_eight (s : St) : outL s 8 = s.bytes := by simp [outL, St.bytes]
theorem outL_length (s : St) : ∀ k, (outL s k).length = 4 * k
  | 0 => rfl
  | k + 1 => by rw [outL, List.length_append, outL_length s k]; simp [bytesW]; omega
theorem byte_at (x : UInt32) (n : Nat) (h : n < 32) : ((x.toNat : Int) / 2 ^ n) % 256 = (((x >>> UInt32.ofNat n).toUInt8).toNat : Int) := by
  rw [q_shr x n h, UInt32.toNat_toUInt8]; omega
theorem byte_zero (x : UInt32) : (x.toNat : Int) % 256 = ((x.toUInt8).toNat : Int) := by
  rw [UInt32.toNat_toUInt8]; omega
end

section
open Go.RowKit
set_option linter.unusedVariables false
set_option linter.unusedSimpArgs false

theorem arr_set {w : World} {g e i : Nat} {cur : Array Value} {fr : Nat × Nat} {u : Value} (h : w.heap[g]? = some (.cells cur e fr)) : (w.setCell ⟨g, i, none⟩ u).heap[g]? = some (.cells (cur.setIfInBounds i u) e fr) := by
  simp [World.setCell, Array.getElem?_modify, h]
theorem arrs_grown {g : Nat} : ∀ (vs : List Value) (o : Nat) (w : World), w.grownBy (w.setCells g o vs) (some g)
  | [], o, w => World.grownBy.refl w _
  | v :: vs, o, w => by
    have h1 := arrs_grown (g := g) vs (o + 1) (w.setCell ⟨g, o, none⟩ v)
    have h0 : w.grownBy (w.setCell ⟨g, o, none⟩ v) (some g) := ⟨rfl, rfl, rfl, by simp, fun k hk hne => Below.heap_setCell w ⟨g, o, none⟩ v k (fun e => hne (by rw [e]))⟩
    exact ⟨h1.os.trans h0.os, h1.tape.trans h0.tape, h1.output.trans h0.output, Nat.le_trans h0.size h1.size, fun i hi hr => (h1.block i (Nat.lt_of_lt_of_le hi h0.size) hr).trans (h0.block i hi hr)⟩
theorem arrs_at {g t : Nat} {fr : Nat × Nat} : ∀ (vs : List Value) (o : Nat) (w : World) (cur : Array Value), w.heap[g]? = some (.cells cur t fr) → o + vs.length ≤ cur.size →
    ∃ cur', (w.setCells g o vs).heap[g]? = some (.cells cur' t fr) ∧ cur'.size = cur.size ∧ cur'.toList = cur.toList.take o ++ vs ++ cur.toList.drop (o + vs.length)
  | [], o, w, cur, h, _ => ⟨cur, h, rfl, by simp⟩
  | v :: vs, o, w, cur, h, hl => by
    rw [List.length_cons] at hl
    obtain ⟨cur', h1, h2, h3⟩ := arrs_at vs (o + 1) (w.setCell ⟨g, o, none⟩ v) (cur.setIfInBounds o v) (arr_set h) (by rw [Array.size_setIfInBounds]; omega)
    refine ⟨cur', h1, by rw [h2, Array.size_setIfInBounds], ?_⟩
    have hlt : o < cur.toList.length := by rw [Array.length_toList]; omega
    rw [h3, Array.toList_setIfInBounds, List.drop_set_of_lt (by omega), List.take_succ_eq_append_getElem (by rw [List.length_set]; exact hlt), List.take_set_of_le (Nat.le_refl _), List.length_cons]
    simp [Nat.add_assoc, Nat.add_comm 1]
theorem arr_whole {w : World} {g t : Nat} {fr : Nat × Nat} {cur cells : Array Value} (h : w.heap[g]? = some (.cells cur t fr)) (hs : cur.size = cells.size) : (w.setCells g 0 cells.toList).heap[g]? = some (.cells cells t fr) := by
  obtain ⟨cur', h1, h2, h3⟩ := arrs_at cells.toList 0 w cur h (by simp; omega)
  rw [h1]
  have : cur' = cells := by
    apply Array.ext'
    rw [h3, List.take_zero, List.nil_append, List.drop_eq_nil_of_le (by simp; omega), List.append_nil]
  rw [this]
theorem arr_there {w : World} {g t : Nat} {cur : Array Value} (h : w.heap[g]? = some (.cells cur t (0, 0))) : w.there g 0 cur.size := by
  intro j hj
  obtain ⟨h1, h2⟩ := blk h
  rw [Nat.zero_add]
  exact ⟨by rw [h1, Array.getElem?_eq_getElem hj]; rfl, h2 j⟩

/-- An array is stored whole. -/
theorem wpList_store_arr {P : Program} {ops : Array Oper} {rest : List Oper} {op : Oper} {a : Act} {w : World} {Q : Exit → Act → World → Prop} (hgd : op.guard = none) (ty : TypeId) (x y : Operand) (ho : op.op = .store ty x y)
    (b : Nat) (cells cur : Array Value) (t : TypeId) (hx : a.eval x = .pointer (some ⟨b, 0, none⟩)) (hy : a.eval y = .agg cells)
    (hg : w.heap[b]? = some (.cells cur t (0, 0))) (hs : cur.size = cells.size) (hi : (P.info? ty).map (·.size) = some cells.size) (h1 : cells.all (·.oneCell') = true)
    (h : ∀ w', w'.heap[b]? = some (.cells cells t (0, 0)) → w.grownBy w' (some b) → wpList P ops Q rest (a.put op.dst undef) w') : wpList P ops Q (op :: rest) a w :=
  wpList_store_mid hgd ty x y ho b 0 cells hx hy (by rw [← hs]; exact arr_there hg) hi h1 (h _ (arr_whole hg hs) (arrs_grown _ _ _))
theorem wp_store_arr {P : Program} {op : Oper} {a : Act} {w : World} {K : Act → World → Prop} {Q : Exit → Act → World → Prop} (ty : TypeId) (x y : Operand) (ho : op.op = .store ty x y)
    (b : Nat) (cells cur : Array Value) (t : TypeId) (hx : a.eval x = .pointer (some ⟨b, 0, none⟩)) (hy : a.eval y = .agg cells)
    (hg : w.heap[b]? = some (.cells cur t (0, 0))) (hs : cur.size = cells.size) (hi : (P.info? ty).map (·.size) = some cells.size) (h1 : cells.all (·.oneCell') = true)
    (h : ∀ w', w'.heap[b]? = some (.cells cells t (0, 0)) → w.grownBy w' (some b) → K (a.put op.dst undef) w') : op.wp P a w K Q :=
  wp_store_mid ty x y ho b 0 cells hx hy (by rw [← hs]; exact arr_there hg) hi h1 (h _ (arr_whole hg hs) (arrs_grown _ _ _))
theorem arr_part {w : World} {g t o : Nat} {fr : Nat × Nat} {cur cells : Array Value} (h : w.heap[g]? = some (.cells cur t fr)) (hs : o + cells.size ≤ cur.size) : (w.setCells g o cells.toList).heap[g]? = some (.cells (cur.toList.take o ++ cells.toList ++ cur.toList.drop (o + cells.size)).toArray t fr) := by
  obtain ⟨cur', h1, h2, h3⟩ := arrs_at cells.toList o w cur h (by simpa using hs)
  rw [h1]
  have : cur' = (cur.toList.take o ++ cells.toList ++ cur.toList.drop (o + cells.size)).toArray := by
    apply Array.ext'
    rw [h3, Array.length_toList]
  rw [this]
theorem arr_there_at {w : World} {g t o n : Nat} {cur : Array Value} (h : w.heap[g]? = some (.cells cur t (0, 0))) (hn : o + n ≤ cur.size) : w.there g o n := by
  intro j hj
  obtain ⟨h1, h2⟩ := blk h
  exact ⟨by rw [h1, Array.getElem?_eq_getElem (by omega)]; rfl, h2 _⟩
/-- An array is stored in the midst of a block. -/
theorem wpList_store_part {P : Program} {ops : Array Oper} {rest : List Oper} {op : Oper} {a : Act} {w : World} {Q : Exit → Act → World → Prop} (hgd : op.guard = none) (ty : TypeId) (x y : Operand) (ho : op.op = .store ty x y)
    (b o : Nat) (cells cur : Array Value) (t : TypeId) (hx : a.eval x = .pointer (some ⟨b, o, none⟩)) (hy : a.eval y = .agg cells)
    (hg : w.heap[b]? = some (.cells cur t (0, 0))) (hs : o + cells.size ≤ cur.size) (hi : (P.info? ty).map (·.size) = some cells.size) (h1 : cells.all (·.oneCell') = true)
    (h : ∀ w', w'.heap[b]? = some (.cells (cur.toList.take o ++ cells.toList ++ cur.toList.drop (o + cells.size)).toArray t (0, 0)) → w.grownBy w' (some b) → wpList P ops Q rest (a.put op.dst undef) w') : wpList P ops Q (op :: rest) a w :=
  wpList_store_mid hgd ty x y ho b o cells hx hy (arr_there_at hg hs) hi h1 (h _ (arr_part hg hs) (arrs_grown _ _ _))
end

section
open Go.RowKit
set_option linter.unusedVariables false
set_option linter.unusedSimpArgs false

theorem info_u32x64 : (Try.prog.info? 73).map (·.size) = some 64 := by kernel_rfl
theorem one_qv (l : List UInt32) : ((l.map qv).toArray).all (·.oneCell') = true := by
  rw [Array.all_eq_true_iff_forall_mem]
  intro v hv
  rw [List.mem_toArray, List.mem_map] at hv
  obtain ⟨x, _, rfl⟩ := hv
  rfl

theorem cell_keep' {B : Nat} {w w1 : World} (hb : Below B w w1) {a : Addr} {j : Nat} {v : Value} (hB : a.block < B) (h : w.cell? (a.add j) = some v) : w1.cell? (a.add j) = some v := (hb.cell (by rw [add_eq]; exact hB)).trans h
theorem q_sum4 (a b c d : UInt32) : ((a.toNat : Int) + (b.toNat : Int) + (c.toNat : Int) + (d.toNat : Int)) % 4294967296 = ((a + b + c + d).toNat : Int) := by
  simp only [UInt32.toNat_add, Nat.reducePow]; omega
theorem next_eq (x16 x15 x7 x2 : UInt32) : ((x16.toNat : Int) + bits .xor .u32 (bits .xor .u32 ((rotr x15 7).toNat : Int) ((rotr x15 18).toNat : Int)) ((x15.toNat : Int) / 8) + (x7.toNat : Int) + bits .xor .u32 (bits .xor .u32 ((rotr x2 17).toNat : Int) ((rotr x2 19).toNat : Int)) ((x2.toNat : Int) / 1024)) % 4294967296 = ((x16 + (rotr x15 7 ^^^ rotr x15 18 ^^^ x15 >>> UInt32.ofNat 3) + x7 + (rotr x2 17 ^^^ rotr x2 19 ^^^ x2 >>> UInt32.ofNat 10)).toNat : Int) := by
  have e1 := q_shr x15 3 (by omega)
  have e2 := q_shr x2 10 (by omega)
  rw [show (8 : Int) = 2 ^ 3 from rfl, show (1024 : Int) = 2 ^ 10 from rfl, e1, e2]
  simp only [q_xor]
  exact q_sum4 _ _ _ _
/-- The words so far, and nothing behind them. -/
def filled (b : List UInt8) (k : Nat) : List UInt32 := sched b k ++ List.replicate (64 - k) 0
theorem filled_length (b : List UInt8) (k : Nat) (h : k ≤ 64) : (filled b k).length = 64 := by
  rw [filled, List.length_append, sched_length, List.length_replicate]; omega
theorem filled_at (b : List UInt8) (k j : Nat) (h : j < k) : ((filled b k).map qv).toArray[j]? = some (.int .u32 (((sched b k).getD j 0).toNat : Int)) := by
  have hl := sched_length b k
  simp only [filled, List.getElem?_toArray, List.map_append, List.getElem?_append]
  rw [if_pos (by rw [List.length_map]; omega), List.getElem?_map, List.getD_eq_getElem?_getD, List.getElem?_eq_getElem (by omega)]
  rfl
theorem filled_set (b : List UInt8) (k : Nat) (h : k < 64) (x : UInt32) (hx : x = if k < 16 then wordAt b k else nextW (sched b k) k) : ((filled b k).map qv).toArray.setIfInBounds k (.int .u32 (x.toNat : Int)) = ((filled b (k + 1)).map qv).toArray := by
  have hl := sched_length b k
  apply Array.ext'
  rw [Array.toList_setIfInBounds]
  simp only [filled, List.map_append]
  rw [List.set_append_right _ _ (by rw [List.length_map]; omega), List.length_map, hl, Nat.sub_self, sched, ← hx, List.map_append, List.append_assoc]
  congr 1
  rw [show 64 - k = 64 - (k + 1) + 1 by omega, List.replicate_succ]
  rfl

set_option maxHeartbeats 1000000 in
set_option maxRecDepth 100000 in
theorem spread_calls {e b0 : Nat} {v : Value} {x : List UInt8} (w : World) (hv : Sl bv e w b0 v x) (hx : x.length = 64) :
    Calls Try.prog 57 #[v] w fun e w' => e = .returned (.agg ((sched x 64).map qv).toArray) ∧ Below w.heap.size w w' := by
  have HV := Aside0.mk hv
  obtain ⟨A, c, rfl, hc, hl, hR⟩ := hv
  rcases A with _ | ad
  · obtain ⟨ad, h1, _⟩ := hR.getD 0 (by rw [List.length_map]; omega)
    cases h1
  have HC : Aside0 (∀ j, j < 64 → w.cell? (ad.add j) = some (.int .u8 ((x.getD j 0).toNat : Int))) := ⟨fun j hj => by
    obtain ⟨ad', h1, h2⟩ := hR.cell j (bv (x[j]'(by omega))) (by rw [List.getElem?_map, List.getElem?_eq_getElem]; rfl)
    cases h1
    rw [h2]; simp [bv, List.getElem?_eq_getElem (show j < x.length by omega)]⟩
  have HX := Aside0.mk hx
  rw [hx] at hc ⊢
  have hadl : ad.block < w.heap.size := hR.lt rfl (by rintro h; have := congrArg List.length h; simp at this; rw [this] at hx; simp at hx)
  clear hR hl hx
  go_enter Try.func57, Try.ntmps57
  go_wp2_with fail
  have H0 := Aside0.mk (show (w.alloc (.cells ((filled x 0).map qv).toArray 73)).heap[w.heap.size]? = some (.cells ((filled x 0).map qv).toArray 73 (0, 0)) ∧ Below w.heap.size w (w.alloc (.cells ((filled x 0).map qv).toArray 73)) from ⟨heap_new rfl, (Below.refl _ _).alloc (Nat.le_refl _) _⟩)
  go_loopw [6] (fun i wr => ∃ k : Nat, k ≤ 64 ∧ i = .int .i64 k ∧ Aside0 (wr.heap[w.heap.size]? = some (.cells ((filled x k).map qv).toArray 73 (0, 0)) ∧ Below w.heap.size w wr)) (fun i wr => 64 - (intOf i).toNat)
  case atStart => exact ⟨0, by omega, rfl, H0⟩
  case round =>
    obtain ⟨k, hk, rfl, hs⟩ := hrel
    clear H0
    obtain ⟨hcs, hfs⟩ := blk hs.out.1
    have hfs' : wr.frozen? ⟨w.heap.size, k, none⟩ = false := hfs k
    have HCS := Aside0.mk hcs
    clear hcs hfs
    by_cases h16 : k < 16
    · have hlt : k < 64 := by omega
      have hck : wr.cell? ⟨w.heap.size, k, none⟩ = some (.int .u32 0) := by
        rw [HCS.out]
        simp only [filled, List.getElem?_toArray, List.map_append, List.getElem?_append]
        rw [if_neg (by rw [List.length_map, sched_length]; omega), List.length_map, sched_length, Nat.sub_self, show 64 - k = 63 - k + 1 by omega]
        rfl
      have HW : ∀ j, 4 * k + j < 64 → wr.cell? (ad.add (4 * k + j)) = some (.int .u8 ((x.getD (4 * k + j) 0).toNat : Int)) := fun j hj => cell_keep' hs.out.2 hadl (HC.out _ hj)
      have h0 := HW 0 (by omega)
      have h1 := HW 1 (by omega)
      have h2 := HW 2 (by omega)
      have h3 := HW 3 (by omega)
      have HCW := Aside0.mk (And.intro h0 (And.intro h1 (And.intro h2 h3)))
      clear HW h0 h1 h2 h3
      go_wp2_with fail
      refine (word_calls (ad.add (4 * k)) (64 - 4 * k) (c - 4 * k) (by omega) (by omega) (x.getD (4 * k) 0) (x.getD (4 * k + 1) 0) (x.getD (4 * k + 2) 0) (x.getD (4 * k + 3) 0) wr HCW.out.1 ?_ ?_ ?_).mono ?_
      · rw [← HCW.out.2.1, ← add_add]; rfl
      · rw [← HCW.out.2.2.1, ← add_add]; rfl
      · rw [← HCW.out.2.2.2, ← add_add]; rfl
      rintro e w' ⟨rfl, n, rfl⟩
      go_wp2_with fail
      go_roundw
      case rel => exact ⟨k + 1, by omega, by go_num, ⟨by
        rw [← filled_set x k hlt (wordAt x k) (by rw [if_pos h16])]
        exact arr_set (w := wr.drewN n) hs.out.1, (below_drewN hs.out.2 n).setCell (by simp) _⟩⟩
      case measure => simp [intOf]; omega
    · by_cases hlt : k < 64
      · have h16' : 16 ≤ k := by omega
        have c15 : wr.cell? ⟨w.heap.size, k - 15, none⟩ = _ := (HCS.out (k - 15)).trans (filled_at x k (k - 15) (by omega))
        have c16 : wr.cell? ⟨w.heap.size, k - 16, none⟩ = _ := (HCS.out (k - 16)).trans (filled_at x k (k - 16) (by omega))
        have c2 : wr.cell? ⟨w.heap.size, k - 2, none⟩ = _ := (HCS.out (k - 2)).trans (filled_at x k (k - 2) (by omega))
        have c7 : wr.cell? ⟨w.heap.size, k - 7, none⟩ = _ := (HCS.out (k - 7)).trans (filled_at x k (k - 7) (by omega))
        have hck : wr.cell? ⟨w.heap.size, k, none⟩ = some (.int .u32 0) := by
          rw [HCS.out]
          simp only [filled, List.getElem?_toArray, List.map_append, List.getElem?_append]
          rw [if_neg (by rw [List.length_map, sched_length]; omega), List.length_map, sched_length, Nat.sub_self, show 64 - k = 63 - k + 1 by omega]
          rfl
        obtain ⟨N, hN⟩ : ∃ N, N = nextW (sched x k) k := ⟨_, rfl⟩
        have HN := Aside0.mk hN
        unfold nextW at hN
        generalize (sched x k).getD (k - 15) 0 = x15 at *
        generalize (sched x k).getD (k - 16) 0 = x16 at *
        generalize (sched x k).getD (k - 2) 0 = x2 at *
        generalize (sched x k).getD (k - 7) 0 = x7 at *
        have HNN := Aside0.mk hN
        clear hN
        go_wp2_with fail
        go_quiet (fail)
        have hs2 := hs.out
        have hc15 := c15
        obtain ⟨wq, hwq⟩ : ∃ wq, wq = wr.drewN nq := ⟨_, rfl⟩
        have hs3 : wq.heap[w.heap.size]? = some (.cells ((filled x k).map qv).toArray 73 (0, 0)) ∧ Below w.heap.size w wq := by rw [hwq]; exact ⟨hs2.1, below_drewN hs2.2 nq⟩
        have HS3 := Aside0.mk hs3
        rw [← hwq]
        have d15 : wq.cell? ⟨w.heap.size, k - 15, none⟩ = some (.int .u32 (x15.toNat : Int)) := by rw [hwq]; exact c15
        have d16 : wq.cell? ⟨w.heap.size, k - 16, none⟩ = some (.int .u32 (x16.toNat : Int)) := by rw [hwq]; exact c16
        have d2 : wq.cell? ⟨w.heap.size, k - 2, none⟩ = some (.int .u32 (x2.toNat : Int)) := by rw [hwq]; exact c2
        have d7 : wq.cell? ⟨w.heap.size, k - 7, none⟩ = some (.int .u32 (x7.toNat : Int)) := by rw [hwq]; exact c7
        have dk : wq.cell? ⟨w.heap.size, k, none⟩ = some (.int .u32 0) := by rw [hwq]; exact hck
        have df : wq.frozen? ⟨w.heap.size, k, none⟩ = false := by rw [hwq]; exact hfs'
        have HWQ := Aside0.mk hwq
        clear hwq hs2 hs3 c15 hc15 c16 c2 c7 hck hfs'
        go_wp2_with fail
        have z1 : IntKind.i64.wrap ((k : Int) - 16) = (k : Int) - 16 := IntWalk.i64_in _ (by omega)
        have z2 : 0 ≤ (k : Int) - 16 := by omega
        have z3 : (k : Int) - 16 < 64 := by omega
        have z4 : ((k : Int) - 16).toNat = k - 16 := by omega
        have y1 : IntKind.i64.wrap ((k : Int) - 7) = (k : Int) - 7 := IntWalk.i64_in _ (by omega)
        have y2 : 0 ≤ (k : Int) - 7 := by omega
        have y3 : (k : Int) - 7 < 64 := by omega
        have y4 : ((k : Int) - 7).toNat = k - 7 := by omega
        have y5 : 7 ≤ (k : Int) := by omega
        have y6 : 7 ≤ k := by omega
        have x1 : (k : Int) < 64 := by omega
        go_still_tail 29, (by kernel_rfl)
        still_call (turn_at x15 7 7 rfl (by decide) (by decide) _)
        repeat still_step
        still_call (turn_at x15 18 18 rfl (by decide) (by decide) _)
        repeat still_step
        still_call (turn_at x2 17 17 rfl (by decide) (by decide) _)
        repeat still_step
        still_call (turn_at x2 19 19 rfl (by decide) (by decide) _)
        repeat still_step
        refine wpStill_nil ?_
        change wpList _ _ _ _ _ wq.drew
        have ck2 : wq.drew.cell? ⟨w.heap.size, k, none⟩ = some (.int .u32 0) := dk
        have cf2 : wq.drew.frozen? ⟨w.heap.size, k, none⟩ = false := df
        have H4 : wq.drew.heap[w.heap.size]? = some (.cells ((filled x k).map qv).toArray 73 (0, 0)) ∧ Below w.heap.size w wq.drew := ⟨HS3.out.1, HS3.out.2.drew⟩
        have H4 := Aside0.mk H4
        clear HS3 HWQ d15 d16 d2 d7 dk df z1 z2 z3 z4 y1 y2 y3 y4 y5 y6
        generalize wq.drew = w5 at *
        go_wp2_with fail
        rw [next_eq, ← HNN.out]
        refine ⟨⟨k + 1, by omega, by go_num, ⟨?_⟩⟩, by simp [intOf]; omega⟩
        rw [← filled_set x k hlt N (by rw [if_neg h16]; exact HN.out)]
        exact ⟨arr_set H4.out.1, H4.out.2.setCell (Nat.le_refl _) _⟩
      · obtain rfl : k = 64 := by omega
        have hsz : ((filled x 64).map qv).toArray.size = 64 := by rw [List.size_toArray, List.length_map, filled_length x 64 (by omega)]
        have hi : (Try.prog.info? 73).map (·.size) = some ((filled x 64).map qv).toArray.size := by rw [hsz]; exact info_u32x64
        have h1c := one_qv (filled x 64)
        have hf64 : (filled x 64) = sched x 64 := by unfold filled; simp
        have HF0 := Aside0.mk hf64
        have HF := Aside0.mk (And.intro hsz (And.intro hi h1c))
        have hg := hs.out.1
        have hb := hs.out.2
        clear hsz hi h1c hf64 hs HCS hfs' HC HV HX
        generalize hcs : ((filled x 64).map qv).toArray = cs at *
        rw [HF0.out] at hcs
        have HCS := Aside0.mk hcs
        clear hcs HF0
        go_wp2_with (first | (refine wpList_load_row rfl 73 (.tmp 2) rfl w.heap.size rfl 73 cs (0, 0) _ hg Try.underlying73 rfl HF.out.2.1 ?_) | (refine wpList_store_arr rfl 73 (.tmp 2) (.tmp 56) rfl w.heap.size cs cs 73 rfl rfl hg rfl HF.out.2.1 HF.out.2.2 ?_; intro w' hg' hgr'))
        exact bodyPost_ret (v := .agg cs) (results_cell_row rfl _ _ w.heap.size 73 cs (0, 0) _ rfl hg' Try.underlying73 rfl HF.out.2.1) rfl ⟨by rw [HCS.out], hb.grown hgr' hb.size (fun k hk => by cases hk; exact Nat.le_refl _)⟩
end

section
open Go.RowKit
set_option linter.unusedVariables false
set_option linter.unusedSimpArgs false

theorem info_state : (Try.prog.info? 68).map (·.size) = some 8 := by kernel_rfl
set_option maxRecDepth 100000 in
theorem first_calls (w : World) : Calls Try.prog 54 #[] w fun e w' => e = .returned (.agg St0.vs) ∧ Below w.heap.size w w' := by
  go_enter Try.func54, Try.ntmps54
  go_wp2
  refine bodyPost_ret (v := .agg St0.vs) (by simp [results, Try.results54, go_sem]; rfl) rfl ⟨rfl, ?_⟩
  exact (Below.refl _ _).alloc (Nat.le_refl _) _
set_option maxHeartbeats 2000000 in
set_option maxRecDepth 100000 in
theorem const_calls (w : World) : Calls Try.prog 56 #[] w fun e w' => e = .returned (.agg (Ks.map qv).toArray) ∧ Below w.heap.size w w' := by
  go_enter Try.func56, Try.ntmps56

  go_wp2_with (refine wpList_store_arr rfl 73 (.tmp 0) (.tmp 1) rfl w.heap.size (Ks.map qv).toArray _ 73 rfl (by kernel_rfl) (heap_new rfl) (by kernel_rfl) info_u32x64 (one_qv _) ?_; intro w' hg' hgr')

  refine bodyPost_ret (v := .agg (Ks.map qv).toArray) (results_cell_row rfl _ _ w.heap.size 73 _ (0, 0) _ rfl hg' Try.underlying73 rfl info_u32x64) rfl ⟨rfl, ?_⟩
  exact ((Below.refl _ _).alloc (Nat.le_refl _) _).grown hgr' (by simp) (fun k hk => by cases hk; exact Nat.le_refl _)
end

section
open Go.RowKit
set_option linter.unusedVariables false
set_option linter.unusedSimpArgs false

def Zs (n : Nat) : Array Value := (List.replicate n (Value.int .u32 0)).toArray
def KsA : Array Value := (Ks.map qv).toArray
def scA (x : List UInt8) : Array Value := ((sched x 64).map qv).toArray
theorem alloc_arr (w : World) : (Instr.alloc 73 true (.tuple #[])).run Try.prog w = .ok (.pointer (some ⟨w.heap.size, 0, none⟩)) (w.alloc (.cells (Zs 64) 73)) := by kernel_rfl
theorem alloc_st (w : World) : (Instr.alloc 68 true (.tuple #[])).run Try.prog w = .ok (.pointer (some ⟨w.heap.size, 0, none⟩)) (w.alloc (.cells (Zs 8) 68)) := by kernel_rfl
theorem size_KsA : KsA.size = 64 := by kernel_rfl
theorem size_scA (x : List UInt8) : (scA x).size = 64 := by unfold scA; rw [List.size_toArray, List.length_map, sched_length]
theorem size_Zs (n : Nat) : (Zs n).size = n := by unfold Zs; simp
theorem size_vs (s : St) : s.vs.size = 8 := rfl
theorem one_vs (s : St) : s.vs.all (·.oneCell') = true := by simp [St.vs, qv, Value.oneCell']

theorem getD_tf {l : Array Bool} {i : Nat} (h : l.getD i true = false) : l.getD i false = false := by
  rw [Array.getD_eq_getD_getElem?] at h ⊢
  cases hq : l[i]? with
  | none => rw [hq] at h; cases h
  | some b => rw [hq] at h; exact h
theorem getD_tt {l : Array Bool} {i : Nat} (hi : i < l.size) (h : l.getD i true = true) : l.getD i false = true := by
  rw [Array.getD_eq_getD_getElem?] at h ⊢
  rw [Array.getElem?_eq_getElem hi] at h ⊢
  exact h
/-- What stands while the statement goes on. -/
structure StepI (a0 : Act) (W : World) (s : St) (v : Value) (x : List UInt8) (l : Array Bool) (a : Act) (w : World) : Prop where
  sz : l.size = 10
  tsz : a.tmps.size = 111
  dfs : a.defers = a0.defers
  same : ∀ t : Nat, t ≠ 5 → t ≠ 6 → t ≠ 7 → t ≠ 14 → t ≠ 15 → t ≠ 16 → t ≠ 17 → a.tmps[t]? = a0.tmps[t]?
  s14 : l.getD 0 false = true → a.tmps[14]? = some (.agg KsA)
  s15 : l.getD 1 false = true → a.tmps[15]? = some v
  s16 : l.getD 2 false = true → a.tmps[16]? = some (.agg (scA x))
  s17 : l.getD 3 false = true → a.tmps[17]? = some (.agg s.vs)
  blocks : ∃ g5 g6 g7 : Nat,
    (l.getD 4 false = true → a.tmps[5]? = some (.pointer (some ⟨g5, 0, none⟩)) ∧ W.heap.size ≤ g5 ∧ w.heap[g5]? = some (.cells (if l.getD 7 false = true then KsA else Zs 64) 73 (0, 0))) ∧
    (l.getD 5 false = true → a.tmps[6]? = some (.pointer (some ⟨g6, 0, none⟩)) ∧ W.heap.size ≤ g6 ∧ w.heap[g6]? = some (.cells (if l.getD 8 false = true then scA x else Zs 64) 73 (0, 0))) ∧
    (l.getD 6 false = true → a.tmps[7]? = some (.pointer (some ⟨g7, 0, none⟩)) ∧ W.heap.size ≤ g7 ∧ w.heap[g7]? = some (.cells (if l.getD 9 false = true then s.vs else Zs 8) 68 (0, 0))) ∧
    (l.getD 4 false = true → l.getD 5 false = true → g5 ≠ g6) ∧ (l.getD 4 false = true → l.getD 6 false = true → g5 ≠ g7) ∧ (l.getD 5 false = true → l.getD 6 false = true → g6 ≠ g7)
  low : Below W.heap.size W w
  o7 : l.getD 7 false = true → l.getD 4 false = true
  o8 : l.getD 8 false = true → l.getD 5 false = true
  o9 : l.getD 9 false = true → l.getD 6 false = true

/-- The world goes on below what is there. -/
theorem StepI.go {a0 : Act} {W : World} {s : St} {v : Value} {x : List UInt8} {l : Array Bool} {a : Act} {w w' : World} (h : StepI a0 W s v x l a w) (hb : Below w.heap.size w w') : StepI a0 W s v x l a w' := by
  obtain ⟨g5, g6, g7, h5, h6, h7, hr⟩ := h.blocks
  exact { h with
    blocks := ⟨g5, g6, g7, fun k => ⟨(h5 k).1, (h5 k).2.1, below_heap hb (h5 k).2.2⟩, fun k => ⟨(h6 k).1, (h6 k).2.1, below_heap hb (h6 k).2.2⟩, fun k => ⟨(h7 k).1, (h7 k).2.1, below_heap hb (h7 k).2.2⟩, hr⟩
    low := below_then h.low h.low.size hb }
theorem StepI.m0 {a0 : Act} {W : World} {s : St} {v : Value} {x : List UInt8} {l : Array Bool} {a : Act} {w : World} (h : StepI a0 W s v x l a w) : StepI a0 W s v x (l.setIfInBounds 0 true) (a.put (some 14) (.agg KsA)) w := by
  obtain ⟨g5, g6, g7, h5, h6, h7, d1, d2, d3⟩ := h.blocks
  exact {
    sz := by rw [Array.size_setIfInBounds]; exact h.sz
    tsz := by rw [put_size]; exact h.tsz
    dfs := by rw [put_defs]; exact h.dfs
    same := fun t k5 k6 k7 k14 k15 k16 k17 => by rw [put_at _ _ _ (by rw [h.tsz]; decide), if_neg (fun e => k14 e.symm)]; exact h.same t k5 k6 k7 k14 k15 k16 k17
    s14 := fun _ => by rw [put_at _ _ _ (by rw [h.tsz]; decide), if_pos rfl]
    s15 := fun k => by rw [put_at _ _ _ (by rw [h.tsz]; decide), if_neg (by decide)]; exact h.s15 (by rwa [getD_set_ne false (show 0 ≠ 1 by decide)] at k)
    s16 := fun k => by rw [put_at _ _ _ (by rw [h.tsz]; decide), if_neg (by decide)]; exact h.s16 (by rwa [getD_set_ne false (show 0 ≠ 2 by decide)] at k)
    s17 := fun k => by rw [put_at _ _ _ (by rw [h.tsz]; decide), if_neg (by decide)]; exact h.s17 (by rwa [getD_set_ne false (show 0 ≠ 3 by decide)] at k)
    o7 := fun k => getD_set_true (h.o7 (by rwa [getD_set_ne false (show 0 ≠ 7 by decide)] at k))
    o8 := fun k => getD_set_true (h.o8 (by rwa [getD_set_ne false (show 0 ≠ 8 by decide)] at k))
    o9 := fun k => getD_set_true (h.o9 (by rwa [getD_set_ne false (show 0 ≠ 9 by decide)] at k))
    blocks := ⟨g5, g6, g7, fun k => by rw [put_at _ _ _ (by rw [h.tsz]; decide), if_neg (by decide), getD_set_ne false (show 0 ≠ 7 by decide)]; exact h5 (by rwa [getD_set_ne false (show 0 ≠ 4 by decide)] at k), fun k => by rw [put_at _ _ _ (by rw [h.tsz]; decide), if_neg (by decide), getD_set_ne false (show 0 ≠ 8 by decide)]; exact h6 (by rwa [getD_set_ne false (show 0 ≠ 5 by decide)] at k), fun k => by rw [put_at _ _ _ (by rw [h.tsz]; decide), if_neg (by decide), getD_set_ne false (show 0 ≠ 9 by decide)]; exact h7 (by rwa [getD_set_ne false (show 0 ≠ 6 by decide)] at k), fun k k2 => d1 (by rwa [getD_set_ne false (show 0 ≠ 4 by decide)] at k) (by rwa [getD_set_ne false (show 0 ≠ 5 by decide)] at k2), fun k k2 => d2 (by rwa [getD_set_ne false (show 0 ≠ 4 by decide)] at k) (by rwa [getD_set_ne false (show 0 ≠ 6 by decide)] at k2), fun k k2 => d3 (by rwa [getD_set_ne false (show 0 ≠ 5 by decide)] at k) (by rwa [getD_set_ne false (show 0 ≠ 6 by decide)] at k2)⟩
    low := h.low }
theorem StepI.m1 {a0 : Act} {W : World} {s : St} {v : Value} {x : List UInt8} {l : Array Bool} {a : Act} {w : World} (h : StepI a0 W s v x l a w) : StepI a0 W s v x (l.setIfInBounds 1 true) (a.put (some 15) (v)) w := by
  obtain ⟨g5, g6, g7, h5, h6, h7, d1, d2, d3⟩ := h.blocks
  exact {
    sz := by rw [Array.size_setIfInBounds]; exact h.sz
    tsz := by rw [put_size]; exact h.tsz
    dfs := by rw [put_defs]; exact h.dfs
    same := fun t k5 k6 k7 k14 k15 k16 k17 => by rw [put_at _ _ _ (by rw [h.tsz]; decide), if_neg (fun e => k15 e.symm)]; exact h.same t k5 k6 k7 k14 k15 k16 k17
    s14 := fun k => by rw [put_at _ _ _ (by rw [h.tsz]; decide), if_neg (by decide)]; exact h.s14 (by rwa [getD_set_ne false (show 1 ≠ 0 by decide)] at k)
    s15 := fun _ => by rw [put_at _ _ _ (by rw [h.tsz]; decide), if_pos rfl]
    s16 := fun k => by rw [put_at _ _ _ (by rw [h.tsz]; decide), if_neg (by decide)]; exact h.s16 (by rwa [getD_set_ne false (show 1 ≠ 2 by decide)] at k)
    s17 := fun k => by rw [put_at _ _ _ (by rw [h.tsz]; decide), if_neg (by decide)]; exact h.s17 (by rwa [getD_set_ne false (show 1 ≠ 3 by decide)] at k)
    o7 := fun k => getD_set_true (h.o7 (by rwa [getD_set_ne false (show 1 ≠ 7 by decide)] at k))
    o8 := fun k => getD_set_true (h.o8 (by rwa [getD_set_ne false (show 1 ≠ 8 by decide)] at k))
    o9 := fun k => getD_set_true (h.o9 (by rwa [getD_set_ne false (show 1 ≠ 9 by decide)] at k))
    blocks := ⟨g5, g6, g7, fun k => by rw [put_at _ _ _ (by rw [h.tsz]; decide), if_neg (by decide), getD_set_ne false (show 1 ≠ 7 by decide)]; exact h5 (by rwa [getD_set_ne false (show 1 ≠ 4 by decide)] at k), fun k => by rw [put_at _ _ _ (by rw [h.tsz]; decide), if_neg (by decide), getD_set_ne false (show 1 ≠ 8 by decide)]; exact h6 (by rwa [getD_set_ne false (show 1 ≠ 5 by decide)] at k), fun k => by rw [put_at _ _ _ (by rw [h.tsz]; decide), if_neg (by decide), getD_set_ne false (show 1 ≠ 9 by decide)]; exact h7 (by rwa [getD_set_ne false (show 1 ≠ 6 by decide)] at k), fun k k2 => d1 (by rwa [getD_set_ne false (show 1 ≠ 4 by decide)] at k) (by rwa [getD_set_ne false (show 1 ≠ 5 by decide)] at k2), fun k k2 => d2 (by rwa [getD_set_ne false (show 1 ≠ 4 by decide)] at k) (by rwa [getD_set_ne false (show 1 ≠ 6 by decide)] at k2), fun k k2 => d3 (by rwa [getD_set_ne false (show 1 ≠ 5 by decide)] at k) (by rwa [getD_set_ne false (show 1 ≠ 6 by decide)] at k2)⟩
    low := h.low }
theorem StepI.m2 {a0 : Act} {W : World} {s : St} {v : Value} {x : List UInt8} {l : Array Bool} {a : Act} {w : World} (h : StepI a0 W s v x l a w) : StepI a0 W s v x (l.setIfInBounds 2 true) (a.put (some 16) (.agg (scA x))) w := by
  obtain ⟨g5, g6, g7, h5, h6, h7, d1, d2, d3⟩ := h.blocks
  exact {
    sz := by rw [Array.size_setIfInBounds]; exact h.sz
    tsz := by rw [put_size]; exact h.tsz
    dfs := by rw [put_defs]; exact h.dfs
    same := fun t k5 k6 k7 k14 k15 k16 k17 => by rw [put_at _ _ _ (by rw [h.tsz]; decide), if_neg (fun e => k16 e.symm)]; exact h.same t k5 k6 k7 k14 k15 k16 k17
    s14 := fun k => by rw [put_at _ _ _ (by rw [h.tsz]; decide), if_neg (by decide)]; exact h.s14 (by rwa [getD_set_ne false (show 2 ≠ 0 by decide)] at k)
    s15 := fun k => by rw [put_at _ _ _ (by rw [h.tsz]; decide), if_neg (by decide)]; exact h.s15 (by rwa [getD_set_ne false (show 2 ≠ 1 by decide)] at k)
    s16 := fun _ => by rw [put_at _ _ _ (by rw [h.tsz]; decide), if_pos rfl]
    s17 := fun k => by rw [put_at _ _ _ (by rw [h.tsz]; decide), if_neg (by decide)]; exact h.s17 (by rwa [getD_set_ne false (show 2 ≠ 3 by decide)] at k)
    o7 := fun k => getD_set_true (h.o7 (by rwa [getD_set_ne false (show 2 ≠ 7 by decide)] at k))
    o8 := fun k => getD_set_true (h.o8 (by rwa [getD_set_ne false (show 2 ≠ 8 by decide)] at k))
    o9 := fun k => getD_set_true (h.o9 (by rwa [getD_set_ne false (show 2 ≠ 9 by decide)] at k))
    blocks := ⟨g5, g6, g7, fun k => by rw [put_at _ _ _ (by rw [h.tsz]; decide), if_neg (by decide), getD_set_ne false (show 2 ≠ 7 by decide)]; exact h5 (by rwa [getD_set_ne false (show 2 ≠ 4 by decide)] at k), fun k => by rw [put_at _ _ _ (by rw [h.tsz]; decide), if_neg (by decide), getD_set_ne false (show 2 ≠ 8 by decide)]; exact h6 (by rwa [getD_set_ne false (show 2 ≠ 5 by decide)] at k), fun k => by rw [put_at _ _ _ (by rw [h.tsz]; decide), if_neg (by decide), getD_set_ne false (show 2 ≠ 9 by decide)]; exact h7 (by rwa [getD_set_ne false (show 2 ≠ 6 by decide)] at k), fun k k2 => d1 (by rwa [getD_set_ne false (show 2 ≠ 4 by decide)] at k) (by rwa [getD_set_ne false (show 2 ≠ 5 by decide)] at k2), fun k k2 => d2 (by rwa [getD_set_ne false (show 2 ≠ 4 by decide)] at k) (by rwa [getD_set_ne false (show 2 ≠ 6 by decide)] at k2), fun k k2 => d3 (by rwa [getD_set_ne false (show 2 ≠ 5 by decide)] at k) (by rwa [getD_set_ne false (show 2 ≠ 6 by decide)] at k2)⟩
    low := h.low }
theorem StepI.m3 {a0 : Act} {W : World} {s : St} {v : Value} {x : List UInt8} {l : Array Bool} {a : Act} {w : World} (h : StepI a0 W s v x l a w) : StepI a0 W s v x (l.setIfInBounds 3 true) (a.put (some 17) (.agg s.vs)) w := by
  obtain ⟨g5, g6, g7, h5, h6, h7, d1, d2, d3⟩ := h.blocks
  exact {
    sz := by rw [Array.size_setIfInBounds]; exact h.sz
    tsz := by rw [put_size]; exact h.tsz
    dfs := by rw [put_defs]; exact h.dfs
    same := fun t k5 k6 k7 k14 k15 k16 k17 => by rw [put_at _ _ _ (by rw [h.tsz]; decide), if_neg (fun e => k17 e.symm)]; exact h.same t k5 k6 k7 k14 k15 k16 k17
    s14 := fun k => by rw [put_at _ _ _ (by rw [h.tsz]; decide), if_neg (by decide)]; exact h.s14 (by rwa [getD_set_ne false (show 3 ≠ 0 by decide)] at k)
    s15 := fun k => by rw [put_at _ _ _ (by rw [h.tsz]; decide), if_neg (by decide)]; exact h.s15 (by rwa [getD_set_ne false (show 3 ≠ 1 by decide)] at k)
    s16 := fun k => by rw [put_at _ _ _ (by rw [h.tsz]; decide), if_neg (by decide)]; exact h.s16 (by rwa [getD_set_ne false (show 3 ≠ 2 by decide)] at k)
    s17 := fun _ => by rw [put_at _ _ _ (by rw [h.tsz]; decide), if_pos rfl]
    o7 := fun k => getD_set_true (h.o7 (by rwa [getD_set_ne false (show 3 ≠ 7 by decide)] at k))
    o8 := fun k => getD_set_true (h.o8 (by rwa [getD_set_ne false (show 3 ≠ 8 by decide)] at k))
    o9 := fun k => getD_set_true (h.o9 (by rwa [getD_set_ne false (show 3 ≠ 9 by decide)] at k))
    blocks := ⟨g5, g6, g7, fun k => by rw [put_at _ _ _ (by rw [h.tsz]; decide), if_neg (by decide), getD_set_ne false (show 3 ≠ 7 by decide)]; exact h5 (by rwa [getD_set_ne false (show 3 ≠ 4 by decide)] at k), fun k => by rw [put_at _ _ _ (by rw [h.tsz]; decide), if_neg (by decide), getD_set_ne false (show 3 ≠ 8 by decide)]; exact h6 (by rwa [getD_set_ne false (show 3 ≠ 5 by decide)] at k), fun k => by rw [put_at _ _ _ (by rw [h.tsz]; decide), if_neg (by decide), getD_set_ne false (show 3 ≠ 9 by decide)]; exact h7 (by rwa [getD_set_ne false (show 3 ≠ 6 by decide)] at k), fun k k2 => d1 (by rwa [getD_set_ne false (show 3 ≠ 4 by decide)] at k) (by rwa [getD_set_ne false (show 3 ≠ 5 by decide)] at k2), fun k k2 => d2 (by rwa [getD_set_ne false (show 3 ≠ 4 by decide)] at k) (by rwa [getD_set_ne false (show 3 ≠ 6 by decide)] at k2), fun k k2 => d3 (by rwa [getD_set_ne false (show 3 ≠ 5 by decide)] at k) (by rwa [getD_set_ne false (show 3 ≠ 6 by decide)] at k2)⟩
    low := h.low }
theorem StepI.m4 {a0 : Act} {W : World} {s : St} {v : Value} {x : List UInt8} {l : Array Bool} {a : Act} {w : World} (h : StepI a0 W s v x l a w) (h0 : l.getD 4 true = false) : StepI a0 W s v x (l.setIfInBounds 4 true) (a.put (some 5) (.pointer (some ⟨w.heap.size, 0, none⟩))) (w.alloc (.cells (Zs 64) 73)) := by
  have hn : l.getD 7 false = false := by
    cases hq : l.getD 7 false with
    | false => rfl
    | true => have := h.o7 hq; rw [getD_tf h0] at this; cases this
  have hB : Below w.heap.size w (w.alloc (.cells (Zs 64) 73)) := (Below.refl _ _).alloc (Nat.le_refl _) _
  obtain ⟨g5, g6, g7, h5, h6, h7, d1, d2, d3⟩ := h.blocks
  exact {
    sz := by rw [Array.size_setIfInBounds]; exact h.sz
    tsz := by rw [put_size]; exact h.tsz
    dfs := by rw [put_defs]; exact h.dfs
    same := fun t k5 k6 k7 k14 k15 k16 k17 => by rw [put_at _ _ _ (by rw [h.tsz]; decide), if_neg (fun e => k5 e.symm)]; exact h.same t k5 k6 k7 k14 k15 k16 k17
    s14 := fun k => by rw [put_at _ _ _ (by rw [h.tsz]; decide), if_neg (by decide)]; exact h.s14 (by rwa [getD_set_ne false (show 4 ≠ 0 by decide)] at k)
    s15 := fun k => by rw [put_at _ _ _ (by rw [h.tsz]; decide), if_neg (by decide)]; exact h.s15 (by rwa [getD_set_ne false (show 4 ≠ 1 by decide)] at k)
    s16 := fun k => by rw [put_at _ _ _ (by rw [h.tsz]; decide), if_neg (by decide)]; exact h.s16 (by rwa [getD_set_ne false (show 4 ≠ 2 by decide)] at k)
    s17 := fun k => by rw [put_at _ _ _ (by rw [h.tsz]; decide), if_neg (by decide)]; exact h.s17 (by rwa [getD_set_ne false (show 4 ≠ 3 by decide)] at k)
    o7 := fun k => getD_set_true (h.o7 (by rwa [getD_set_ne false (show 4 ≠ 7 by decide)] at k))
    o8 := fun k => getD_set_true (h.o8 (by rwa [getD_set_ne false (show 4 ≠ 8 by decide)] at k))
    o9 := fun k => getD_set_true (h.o9 (by rwa [getD_set_ne false (show 4 ≠ 9 by decide)] at k))
    blocks := ⟨w.heap.size, g6, g7, fun k => by rw [put_at _ _ _ (by rw [h.tsz]; decide), if_pos rfl, getD_set_ne false (show 4 ≠ 7 by decide), hn]; exact ⟨rfl, h.low.size, heap_new rfl⟩, fun k => by rw [put_at _ _ _ (by rw [h.tsz]; decide), if_neg (by decide), getD_set_ne false (show 4 ≠ 8 by decide)]; have := h6 (by rwa [getD_set_ne false (show 4 ≠ 5 by decide)] at k); exact ⟨this.1, this.2.1, heap_old this.2.2⟩, fun k => by rw [put_at _ _ _ (by rw [h.tsz]; decide), if_neg (by decide), getD_set_ne false (show 4 ≠ 9 by decide)]; have := h7 (by rwa [getD_set_ne false (show 4 ≠ 6 by decide)] at k); exact ⟨this.1, this.2.1, heap_old this.2.2⟩, fun k k2 => Nat.ne_of_gt (blk_lt (h6 (by rwa [getD_set_ne false (show 4 ≠ 5 by decide)] at k2)).2.2), fun k k2 => Nat.ne_of_gt (blk_lt (h7 (by rwa [getD_set_ne false (show 4 ≠ 6 by decide)] at k2)).2.2), fun k k2 => d3 (by rwa [getD_set_ne false (show 4 ≠ 5 by decide)] at k) (by rwa [getD_set_ne false (show 4 ≠ 6 by decide)] at k2)⟩
    low := below_then h.low h.low.size hB }
theorem StepI.m5 {a0 : Act} {W : World} {s : St} {v : Value} {x : List UInt8} {l : Array Bool} {a : Act} {w : World} (h : StepI a0 W s v x l a w) (h0 : l.getD 5 true = false) : StepI a0 W s v x (l.setIfInBounds 5 true) (a.put (some 6) (.pointer (some ⟨w.heap.size, 0, none⟩))) (w.alloc (.cells (Zs 64) 73)) := by
  have hn : l.getD 8 false = false := by
    cases hq : l.getD 8 false with
    | false => rfl
    | true => have := h.o8 hq; rw [getD_tf h0] at this; cases this
  have hB : Below w.heap.size w (w.alloc (.cells (Zs 64) 73)) := (Below.refl _ _).alloc (Nat.le_refl _) _
  obtain ⟨g5, g6, g7, h5, h6, h7, d1, d2, d3⟩ := h.blocks
  exact {
    sz := by rw [Array.size_setIfInBounds]; exact h.sz
    tsz := by rw [put_size]; exact h.tsz
    dfs := by rw [put_defs]; exact h.dfs
    same := fun t k5 k6 k7 k14 k15 k16 k17 => by rw [put_at _ _ _ (by rw [h.tsz]; decide), if_neg (fun e => k6 e.symm)]; exact h.same t k5 k6 k7 k14 k15 k16 k17
    s14 := fun k => by rw [put_at _ _ _ (by rw [h.tsz]; decide), if_neg (by decide)]; exact h.s14 (by rwa [getD_set_ne false (show 5 ≠ 0 by decide)] at k)
    s15 := fun k => by rw [put_at _ _ _ (by rw [h.tsz]; decide), if_neg (by decide)]; exact h.s15 (by rwa [getD_set_ne false (show 5 ≠ 1 by decide)] at k)
    s16 := fun k => by rw [put_at _ _ _ (by rw [h.tsz]; decide), if_neg (by decide)]; exact h.s16 (by rwa [getD_set_ne false (show 5 ≠ 2 by decide)] at k)
    s17 := fun k => by rw [put_at _ _ _ (by rw [h.tsz]; decide), if_neg (by decide)]; exact h.s17 (by rwa [getD_set_ne false (show 5 ≠ 3 by decide)] at k)
    o7 := fun k => getD_set_true (h.o7 (by rwa [getD_set_ne false (show 5 ≠ 7 by decide)] at k))
    o8 := fun k => getD_set_true (h.o8 (by rwa [getD_set_ne false (show 5 ≠ 8 by decide)] at k))
    o9 := fun k => getD_set_true (h.o9 (by rwa [getD_set_ne false (show 5 ≠ 9 by decide)] at k))
    blocks := ⟨g5, w.heap.size, g7, fun k => by rw [put_at _ _ _ (by rw [h.tsz]; decide), if_neg (by decide), getD_set_ne false (show 5 ≠ 7 by decide)]; have := h5 (by rwa [getD_set_ne false (show 5 ≠ 4 by decide)] at k); exact ⟨this.1, this.2.1, heap_old this.2.2⟩, fun k => by rw [put_at _ _ _ (by rw [h.tsz]; decide), if_pos rfl, getD_set_ne false (show 5 ≠ 8 by decide), hn]; exact ⟨rfl, h.low.size, heap_new rfl⟩, fun k => by rw [put_at _ _ _ (by rw [h.tsz]; decide), if_neg (by decide), getD_set_ne false (show 5 ≠ 9 by decide)]; have := h7 (by rwa [getD_set_ne false (show 5 ≠ 6 by decide)] at k); exact ⟨this.1, this.2.1, heap_old this.2.2⟩, fun k k2 => Nat.ne_of_lt (blk_lt (h5 (by rwa [getD_set_ne false (show 5 ≠ 4 by decide)] at k)).2.2), fun k k2 => d2 (by rwa [getD_set_ne false (show 5 ≠ 4 by decide)] at k) (by rwa [getD_set_ne false (show 5 ≠ 6 by decide)] at k2), fun k k2 => Nat.ne_of_gt (blk_lt (h7 (by rwa [getD_set_ne false (show 5 ≠ 6 by decide)] at k2)).2.2)⟩
    low := below_then h.low h.low.size hB }
theorem StepI.m6 {a0 : Act} {W : World} {s : St} {v : Value} {x : List UInt8} {l : Array Bool} {a : Act} {w : World} (h : StepI a0 W s v x l a w) (h0 : l.getD 6 true = false) : StepI a0 W s v x (l.setIfInBounds 6 true) (a.put (some 7) (.pointer (some ⟨w.heap.size, 0, none⟩))) (w.alloc (.cells (Zs 8) 68)) := by
  have hn : l.getD 9 false = false := by
    cases hq : l.getD 9 false with
    | false => rfl
    | true => have := h.o9 hq; rw [getD_tf h0] at this; cases this
  have hB : Below w.heap.size w (w.alloc (.cells (Zs 8) 68)) := (Below.refl _ _).alloc (Nat.le_refl _) _
  obtain ⟨g5, g6, g7, h5, h6, h7, d1, d2, d3⟩ := h.blocks
  exact {
    sz := by rw [Array.size_setIfInBounds]; exact h.sz
    tsz := by rw [put_size]; exact h.tsz
    dfs := by rw [put_defs]; exact h.dfs
    same := fun t k5 k6 k7 k14 k15 k16 k17 => by rw [put_at _ _ _ (by rw [h.tsz]; decide), if_neg (fun e => k7 e.symm)]; exact h.same t k5 k6 k7 k14 k15 k16 k17
    s14 := fun k => by rw [put_at _ _ _ (by rw [h.tsz]; decide), if_neg (by decide)]; exact h.s14 (by rwa [getD_set_ne false (show 6 ≠ 0 by decide)] at k)
    s15 := fun k => by rw [put_at _ _ _ (by rw [h.tsz]; decide), if_neg (by decide)]; exact h.s15 (by rwa [getD_set_ne false (show 6 ≠ 1 by decide)] at k)
    s16 := fun k => by rw [put_at _ _ _ (by rw [h.tsz]; decide), if_neg (by decide)]; exact h.s16 (by rwa [getD_set_ne false (show 6 ≠ 2 by decide)] at k)
    s17 := fun k => by rw [put_at _ _ _ (by rw [h.tsz]; decide), if_neg (by decide)]; exact h.s17 (by rwa [getD_set_ne false (show 6 ≠ 3 by decide)] at k)
    o7 := fun k => getD_set_true (h.o7 (by rwa [getD_set_ne false (show 6 ≠ 7 by decide)] at k))
    o8 := fun k => getD_set_true (h.o8 (by rwa [getD_set_ne false (show 6 ≠ 8 by decide)] at k))
    o9 := fun k => getD_set_true (h.o9 (by rwa [getD_set_ne false (show 6 ≠ 9 by decide)] at k))
    blocks := ⟨g5, g6, w.heap.size, fun k => by rw [put_at _ _ _ (by rw [h.tsz]; decide), if_neg (by decide), getD_set_ne false (show 6 ≠ 7 by decide)]; have := h5 (by rwa [getD_set_ne false (show 6 ≠ 4 by decide)] at k); exact ⟨this.1, this.2.1, heap_old this.2.2⟩, fun k => by rw [put_at _ _ _ (by rw [h.tsz]; decide), if_neg (by decide), getD_set_ne false (show 6 ≠ 8 by decide)]; have := h6 (by rwa [getD_set_ne false (show 6 ≠ 5 by decide)] at k); exact ⟨this.1, this.2.1, heap_old this.2.2⟩, fun k => by rw [put_at _ _ _ (by rw [h.tsz]; decide), if_pos rfl, getD_set_ne false (show 6 ≠ 9 by decide), hn]; exact ⟨rfl, h.low.size, heap_new rfl⟩, fun k k2 => d1 (by rwa [getD_set_ne false (show 6 ≠ 4 by decide)] at k) (by rwa [getD_set_ne false (show 6 ≠ 5 by decide)] at k2), fun k k2 => Nat.ne_of_lt (blk_lt (h5 (by rwa [getD_set_ne false (show 6 ≠ 4 by decide)] at k)).2.2), fun k k2 => Nat.ne_of_lt (blk_lt (h6 (by rwa [getD_set_ne false (show 6 ≠ 5 by decide)] at k)).2.2)⟩
    low := below_then h.low h.low.size hB }
theorem StepI.m7 {a0 : Act} {W : World} {s : St} {v : Value} {x : List UInt8} {l : Array Bool} {a : Act} {w w' : World} (h : StepI a0 W s v x l a w) (hl : l.getD 4 false = true) (hn : l.getD 7 false = false) {g : Nat} (hg : a.tmps[5]? = some (.pointer (some ⟨g, 0, none⟩))) (hh : w'.heap[g]? = some (.cells (KsA) 73 (0, 0))) (hgr : w.grownBy w' (some g)) : StepI a0 W s v x (l.setIfInBounds 7 true) a w' := by
  obtain ⟨g5, g6, g7, h5, h6, h7, d1, d2, d3⟩ := h.blocks
  obtain rfl : g = g5 := by have := (h5 hl).1; rw [hg] at this; simpa using this
  have hlt : 7 < l.size := by rw [h.sz]; decide
  exact {
    sz := by rw [Array.size_setIfInBounds]; exact h.sz
    tsz := h.tsz
    dfs := h.dfs
    same := h.same
    s14 := fun k => h.s14 (by rwa [getD_set_ne false (show 7 ≠ 0 by decide)] at k)
    s15 := fun k => h.s15 (by rwa [getD_set_ne false (show 7 ≠ 1 by decide)] at k)
    s16 := fun k => h.s16 (by rwa [getD_set_ne false (show 7 ≠ 2 by decide)] at k)
    s17 := fun k => h.s17 (by rwa [getD_set_ne false (show 7 ≠ 3 by decide)] at k)
    o7 := fun _ => getD_set_true hl
    o8 := fun k => getD_set_true (h.o8 (by rwa [getD_set_ne false (show 7 ≠ 8 by decide)] at k))
    o9 := fun k => getD_set_true (h.o9 (by rwa [getD_set_ne false (show 7 ≠ 9 by decide)] at k))
    blocks := ⟨g, g6, g7, fun k => ⟨hg, (h5 hl).2.1, by rw [show (l.setIfInBounds 7 true).getD 7 false = true by simp [hlt]]; exact hh⟩, fun k => by rw [getD_set_ne false (show 7 ≠ 8 by decide)]; have := h6 (by rwa [getD_set_ne false (show 7 ≠ 5 by decide)] at k); exact ⟨this.1, this.2.1, (hgr.block _ (blk_lt this.2.2) (fun e => d1 hl (by rwa [getD_set_ne false (show 7 ≠ 5 by decide)] at k) (Option.some.inj e).symm)).trans this.2.2⟩, fun k => by rw [getD_set_ne false (show 7 ≠ 9 by decide)]; have := h7 (by rwa [getD_set_ne false (show 7 ≠ 6 by decide)] at k); exact ⟨this.1, this.2.1, (hgr.block _ (blk_lt this.2.2) (fun e => d2 hl (by rwa [getD_set_ne false (show 7 ≠ 6 by decide)] at k) (Option.some.inj e).symm)).trans this.2.2⟩, fun k k2 => d1 (by rwa [getD_set_ne false (show 7 ≠ 4 by decide)] at k) (by rwa [getD_set_ne false (show 7 ≠ 5 by decide)] at k2), fun k k2 => d2 (by rwa [getD_set_ne false (show 7 ≠ 4 by decide)] at k) (by rwa [getD_set_ne false (show 7 ≠ 6 by decide)] at k2), fun k k2 => d3 (by rwa [getD_set_ne false (show 7 ≠ 5 by decide)] at k) (by rwa [getD_set_ne false (show 7 ≠ 6 by decide)] at k2)⟩
    low := h.low.grown hgr h.low.size (fun k hk => by cases hk; exact (h5 hl).2.1) }
theorem StepI.m8 {a0 : Act} {W : World} {s : St} {v : Value} {x : List UInt8} {l : Array Bool} {a : Act} {w w' : World} (h : StepI a0 W s v x l a w) (hl : l.getD 5 false = true) (hn : l.getD 8 false = false) {g : Nat} (hg : a.tmps[6]? = some (.pointer (some ⟨g, 0, none⟩))) (hh : w'.heap[g]? = some (.cells (scA x) 73 (0, 0))) (hgr : w.grownBy w' (some g)) : StepI a0 W s v x (l.setIfInBounds 8 true) a w' := by
  obtain ⟨g5, g6, g7, h5, h6, h7, d1, d2, d3⟩ := h.blocks
  obtain rfl : g = g6 := by have := (h6 hl).1; rw [hg] at this; simpa using this
  have hlt : 8 < l.size := by rw [h.sz]; decide
  exact {
    sz := by rw [Array.size_setIfInBounds]; exact h.sz
    tsz := h.tsz
    dfs := h.dfs
    same := h.same
    s14 := fun k => h.s14 (by rwa [getD_set_ne false (show 8 ≠ 0 by decide)] at k)
    s15 := fun k => h.s15 (by rwa [getD_set_ne false (show 8 ≠ 1 by decide)] at k)
    s16 := fun k => h.s16 (by rwa [getD_set_ne false (show 8 ≠ 2 by decide)] at k)
    s17 := fun k => h.s17 (by rwa [getD_set_ne false (show 8 ≠ 3 by decide)] at k)
    o7 := fun k => getD_set_true (h.o7 (by rwa [getD_set_ne false (show 8 ≠ 7 by decide)] at k))
    o8 := fun _ => getD_set_true hl
    o9 := fun k => getD_set_true (h.o9 (by rwa [getD_set_ne false (show 8 ≠ 9 by decide)] at k))
    blocks := ⟨g5, g, g7, fun k => by rw [getD_set_ne false (show 8 ≠ 7 by decide)]; have := h5 (by rwa [getD_set_ne false (show 8 ≠ 4 by decide)] at k); exact ⟨this.1, this.2.1, (hgr.block _ (blk_lt this.2.2) (fun e => d1 (by rwa [getD_set_ne false (show 8 ≠ 4 by decide)] at k) hl (Option.some.inj e))).trans this.2.2⟩, fun k => ⟨hg, (h6 hl).2.1, by rw [show (l.setIfInBounds 8 true).getD 8 false = true by simp [hlt]]; exact hh⟩, fun k => by rw [getD_set_ne false (show 8 ≠ 9 by decide)]; have := h7 (by rwa [getD_set_ne false (show 8 ≠ 6 by decide)] at k); exact ⟨this.1, this.2.1, (hgr.block _ (blk_lt this.2.2) (fun e => d3 hl (by rwa [getD_set_ne false (show 8 ≠ 6 by decide)] at k) (Option.some.inj e).symm)).trans this.2.2⟩, fun k k2 => d1 (by rwa [getD_set_ne false (show 8 ≠ 4 by decide)] at k) (by rwa [getD_set_ne false (show 8 ≠ 5 by decide)] at k2), fun k k2 => d2 (by rwa [getD_set_ne false (show 8 ≠ 4 by decide)] at k) (by rwa [getD_set_ne false (show 8 ≠ 6 by decide)] at k2), fun k k2 => d3 (by rwa [getD_set_ne false (show 8 ≠ 5 by decide)] at k) (by rwa [getD_set_ne false (show 8 ≠ 6 by decide)] at k2)⟩
    low := h.low.grown hgr h.low.size (fun k hk => by cases hk; exact (h6 hl).2.1) }
theorem StepI.m9 {a0 : Act} {W : World} {s : St} {v : Value} {x : List UInt8} {l : Array Bool} {a : Act} {w w' : World} (h : StepI a0 W s v x l a w) (hl : l.getD 6 false = true) (hn : l.getD 9 false = false) {g : Nat} (hg : a.tmps[7]? = some (.pointer (some ⟨g, 0, none⟩))) (hh : w'.heap[g]? = some (.cells (s.vs) 68 (0, 0))) (hgr : w.grownBy w' (some g)) : StepI a0 W s v x (l.setIfInBounds 9 true) a w' := by
  obtain ⟨g5, g6, g7, h5, h6, h7, d1, d2, d3⟩ := h.blocks
  obtain rfl : g = g7 := by have := (h7 hl).1; rw [hg] at this; simpa using this
  have hlt : 9 < l.size := by rw [h.sz]; decide
  exact {
    sz := by rw [Array.size_setIfInBounds]; exact h.sz
    tsz := h.tsz
    dfs := h.dfs
    same := h.same
    s14 := fun k => h.s14 (by rwa [getD_set_ne false (show 9 ≠ 0 by decide)] at k)
    s15 := fun k => h.s15 (by rwa [getD_set_ne false (show 9 ≠ 1 by decide)] at k)
    s16 := fun k => h.s16 (by rwa [getD_set_ne false (show 9 ≠ 2 by decide)] at k)
    s17 := fun k => h.s17 (by rwa [getD_set_ne false (show 9 ≠ 3 by decide)] at k)
    o7 := fun k => getD_set_true (h.o7 (by rwa [getD_set_ne false (show 9 ≠ 7 by decide)] at k))
    o8 := fun k => getD_set_true (h.o8 (by rwa [getD_set_ne false (show 9 ≠ 8 by decide)] at k))
    o9 := fun _ => getD_set_true hl
    blocks := ⟨g5, g6, g, fun k => by rw [getD_set_ne false (show 9 ≠ 7 by decide)]; have := h5 (by rwa [getD_set_ne false (show 9 ≠ 4 by decide)] at k); exact ⟨this.1, this.2.1, (hgr.block _ (blk_lt this.2.2) (fun e => d2 (by rwa [getD_set_ne false (show 9 ≠ 4 by decide)] at k) hl (Option.some.inj e))).trans this.2.2⟩, fun k => by rw [getD_set_ne false (show 9 ≠ 8 by decide)]; have := h6 (by rwa [getD_set_ne false (show 9 ≠ 5 by decide)] at k); exact ⟨this.1, this.2.1, (hgr.block _ (blk_lt this.2.2) (fun e => d3 (by rwa [getD_set_ne false (show 9 ≠ 5 by decide)] at k) hl (Option.some.inj e))).trans this.2.2⟩, fun k => ⟨hg, (h7 hl).2.1, by rw [show (l.setIfInBounds 9 true).getD 9 false = true by simp [hlt]]; exact hh⟩, fun k k2 => d1 (by rwa [getD_set_ne false (show 9 ≠ 4 by decide)] at k) (by rwa [getD_set_ne false (show 9 ≠ 5 by decide)] at k2), fun k k2 => d2 (by rwa [getD_set_ne false (show 9 ≠ 4 by decide)] at k) (by rwa [getD_set_ne false (show 9 ≠ 6 by decide)] at k2), fun k k2 => d3 (by rwa [getD_set_ne false (show 9 ≠ 5 by decide)] at k) (by rwa [getD_set_ne false (show 9 ≠ 6 by decide)] at k2)⟩
    low := h.low.grown hgr h.low.size (fun k hk => by cases hk; exact (h7 hl).2.1) }

theorem wpOp_plain {P : Program} {ops : Array Oper} {Q : Exit → Act → World → Prop} {i : Nat} {o : Oper} {a : Act} {w : World} {K : Act → World → Prop} (ho : ops[i]? = some o) (hg : o.guard = none) (h : o.wp P a w K Q) : wpOp P ops Q i K a w := by
  unfold wpOp
  rw [ho]
  simp only [Region.wanted, hg, if_true]
  exact .inl h
theorem tmp_at {a : Act} {t : Nat} {v : Value} (h : a.tmps[t]? = some v) : a.eval (.tmp t) = v := by
  simp [Act.eval, h]

/-- What the seven slots hold. -/
def seven (a0 : Act) (g5 g6 g7 : Nat) (s : St) (v : Value) (x : List UInt8) : Act :=
  ((((((a0.put (some 5) (.pointer (some ⟨g5, 0, none⟩))).put (some 6) (.pointer (some ⟨g6, 0, none⟩))).put (some 7) (.pointer (some ⟨g7, 0, none⟩))).put (some 14) (.agg KsA)).put (some 15) v).put (some 16) (.agg (scA x))).put (some 17) (.agg s.vs)
theorem StepI.frame {a0 : Act} {W : World} {s : St} {v : Value} {x : List UInt8} {l : Array Bool} {a : Act} {w : World} (h : StepI a0 W s v x l a w) (h0 : a0.tmps.size = 111) (hl : ∀ j, j < 10 → l.getD j false = true) :
    ∃ g5 g6 g7 : Nat, a = seven a0 g5 g6 g7 s v x ∧ W.heap.size ≤ g5 ∧ W.heap.size ≤ g6 ∧ W.heap.size ≤ g7 ∧ g5 ≠ g6 ∧ g5 ≠ g7 ∧ g6 ≠ g7 ∧
      w.heap[g5]? = some (.cells KsA 73 (0, 0)) ∧ w.heap[g6]? = some (.cells (scA x) 73 (0, 0)) ∧ w.heap[g7]? = some (.cells s.vs 68 (0, 0)) := by
  obtain ⟨g5, g6, g7, h5, h6, h7, d1, d2, d3⟩ := h.blocks
  have l4 := hl 4 (by decide)
  have l5 := hl 5 (by decide)
  have l6 := hl 6 (by decide)
  have b5 := h5 l4
  have b6 := h6 l5
  have b7 := h7 l6
  rw [if_pos (hl 7 (by decide))] at b5
  rw [if_pos (hl 8 (by decide))] at b6
  rw [if_pos (hl 9 (by decide))] at b7
  refine ⟨g5, g6, g7, ?_, b5.2.1, b6.2.1, b7.2.1, d1 l4 l5, d2 l4 l6, d3 l5 l6, b5.2.2, b6.2.2, b7.2.2⟩
  unfold seven
  apply act_ext
  · simp only [put_defs]; exact h.dfs
  · intro t
    rw [put_at _ _ _ (by simp only [put_size]; rw [h0]; decide), put_at _ _ _ (by simp only [put_size]; rw [h0]; decide), put_at _ _ _ (by simp only [put_size]; rw [h0]; decide), put_at _ _ _ (by simp only [put_size]; rw [h0]; decide), put_at _ _ _ (by simp only [put_size]; rw [h0]; decide), put_at _ _ _ (by simp only [put_size]; rw [h0]; decide), put_at _ _ _ (by rw [h0]; decide)]
    by_cases k17 : 17 = t
    · subst k17; exact h.s17 (hl 3 (by decide))
    rw [if_neg k17]
    by_cases k16 : 16 = t
    · subst k16; exact h.s16 (hl 2 (by decide))
    rw [if_neg k16]
    by_cases k15 : 15 = t
    · subst k15; exact h.s15 (hl 1 (by decide))
    rw [if_neg k15]
    by_cases k14 : 14 = t
    · subst k14; exact h.s14 (hl 0 (by decide))
    rw [if_neg k14]
    by_cases k7 : 7 = t
    · subst k7; exact b7.1
    rw [if_neg k7]
    by_cases k6 : 6 = t
    · subst k6; exact b6.1
    rw [if_neg k6]
    by_cases k5 : 5 = t
    · subst k5; exact b5.1
    rw [if_neg k5]
    exact h.same t (Ne.symm k5) (Ne.symm k6) (Ne.symm k7) (Ne.symm k14) (Ne.symm k15) (Ne.symm k16) (Ne.symm k17)
end

section
open Go.RowKit
set_option linter.unusedVariables false
set_option linter.unusedSimpArgs false

theorem q_sum5 (a b c d e : UInt32) : ((a.toNat : Int) + (b.toNat : Int) + (c.toNat : Int) + (d.toNat : Int) + (e.toNat : Int)) % 4294967296 = ((a + b + c + d + e).toNat : Int) := by
  simp only [UInt32.toNat_add, Nat.reducePow]; omega
theorem q_sum2 (a b : UInt32) : ((a.toNat : Int) + (b.toNat : Int)) % 4294967296 = ((a + b).toNat : Int) := by
  simp only [UInt32.toNat_add, Nat.reducePow]; omega
theorem q_notm (x : UInt32) : bits .xor .u32 IntKind.u32.max (x.toNat : Int) = ((~~~x).toNat : Int) := q_not x
theorem one_eq (t : St) (kk ww : UInt32) : ((t.h.toNat : Int) + bits .xor .u32 (bits .xor .u32 ((rotr t.e 6).toNat : Int) ((rotr t.e 11).toNat : Int)) ((rotr t.e 25).toNat : Int) + bits .xor .u32 (bits .and .u32 (t.e.toNat : Int) (t.f.toNat : Int)) (bits .and .u32 (bits .xor .u32 IntKind.u32.max (t.e.toNat : Int)) (t.g.toNat : Int)) + (kk.toNat : Int) + (ww.toNat : Int)) % 4294967296 = ((rOne t kk ww).toNat : Int) := by
  simp only [q_xor, q_and, q_notm]
  exact q_sum5 _ _ _ _ _
theorem two_eq (t : St) : (bits .xor .u32 (bits .xor .u32 ((rotr t.a 2).toNat : Int) ((rotr t.a 13).toNat : Int)) ((rotr t.a 22).toNat : Int) + bits .xor .u32 (bits .xor .u32 (bits .and .u32 (t.a.toNat : Int) (t.b.toNat : Int)) (bits .and .u32 (t.a.toNat : Int) (t.c.toNat : Int))) (bits .and .u32 (t.b.toNat : Int) (t.c.toNat : Int))) % 4294967296 = ((rTwo t).toNat : Int) := by
  simp only [q_xor, q_and]
  exact q_sum2 _ _
theorem two_eq' (t : St) (o : UInt32) : ((o.toNat : Int) + (bits .xor .u32 (bits .xor .u32 ((rotr t.a 2).toNat : Int) ((rotr t.a 13).toNat : Int)) ((rotr t.a 22).toNat : Int) + bits .xor .u32 (bits .xor .u32 (bits .and .u32 (t.a.toNat : Int) (t.b.toNat : Int)) (bits .and .u32 (t.a.toNat : Int) (t.c.toNat : Int))) (bits .and .u32 (t.b.toNat : Int) (t.c.toNat : Int)))) % 4294967296 = ((o + rTwo t).toNat : Int) := by
  rw [← q_sum2, ← two_eq]; omega
/-- Eight words as a list. -/
def St.l (s : St) : List UInt32 := [s.a, s.b, s.c, s.d, s.e, s.f, s.g, s.h]
theorem St.vs_l (s : St) : s.vs = (s.l.map qv).toArray := rfl
/-- The first k sums, and the others as they were. -/
def part (t s : St) (k : Nat) : List UInt32 := List.zipWith (· + ·) (t.l.take k) (s.l.take k) ++ t.l.drop k
theorem part_zero (t s : St) : part t s 0 = t.l := rfl
theorem part_eight (t s : St) : part t s 8 = (t.add s).l := rfl
theorem part_at (t s : St) (k : Nat) (h : k < 8) : (part t s k).getD k 0 = t.l.getD k 0 := match k, h with
  | 0, _ => rfl | 1, _ => rfl | 2, _ => rfl | 3, _ => rfl | 4, _ => rfl | 5, _ => rfl | 6, _ => rfl | 7, _ => rfl
theorem part_length (t s : St) (k : Nat) (h : k ≤ 8) : (part t s k).length = 8 := match k, h with
  | 0, _ => rfl | 1, _ => rfl | 2, _ => rfl | 3, _ => rfl | 4, _ => rfl | 5, _ => rfl | 6, _ => rfl | 7, _ => rfl | 8, _ => rfl
theorem part_set (t s : St) (k : Nat) (h : k < 8) : ((part t s k).map qv).toArray.setIfInBounds k (.int .u32 ((t.l.getD k 0 + s.l.getD k 0).toNat : Int)) = ((part t s (k + 1)).map qv).toArray := match k, h with
  | 0, _ => rfl | 1, _ => rfl | 2, _ => rfl | 3, _ => rfl | 4, _ => rfl | 5, _ => rfl | 6, _ => rfl | 7, _ => rfl
/-- The cells that a round reads. -/
def RC (w : World) (g5 g6 g7 k : Nat) (t : St) (kk ww : UInt32) : Prop :=
  w.cell? ⟨g7, 0, none⟩ = some (.int .u32 (t.a.toNat : Int)) ∧ w.cell? ⟨g7, 1, none⟩ = some (.int .u32 (t.b.toNat : Int)) ∧ w.cell? ⟨g7, 2, none⟩ = some (.int .u32 (t.c.toNat : Int)) ∧ w.cell? ⟨g7, 3, none⟩ = some (.int .u32 (t.d.toNat : Int)) ∧
  w.cell? ⟨g7, 4, none⟩ = some (.int .u32 (t.e.toNat : Int)) ∧ w.cell? ⟨g7, 5, none⟩ = some (.int .u32 (t.f.toNat : Int)) ∧ w.cell? ⟨g7, 6, none⟩ = some (.int .u32 (t.g.toNat : Int)) ∧ w.cell? ⟨g7, 7, none⟩ = some (.int .u32 (t.h.toNat : Int)) ∧
  w.cell? ⟨g5, k, none⟩ = some (.int .u32 (kk.toNat : Int)) ∧ w.cell? ⟨g6, k, none⟩ = some (.int .u32 (ww.toNat : Int))
theorem arr_cell {w : World} {g t k : Nat} {l : List UInt32} (h : w.heap[g]? = some (.cells (l.map qv).toArray t (0, 0))) (hk : k < l.length) : w.cell? ⟨g, k, none⟩ = some (.int .u32 ((l.getD k 0).toNat : Int)) := by
  rw [(blk h).1 k]
  simp [List.getElem?_eq_getElem hk, qv]
theorem RC_of {w : World} {g5 g6 g7 k : Nat} {t : St} {t5 t7 : TypeId} {ws : List UInt32} (h5 : w.heap[g5]? = some (.cells (Ks.map qv).toArray t5 (0, 0))) (h6 : w.heap[g6]? = some (.cells (ws.map qv).toArray t5 (0, 0))) (h7 : w.heap[g7]? = some (.cells t.vs t7 (0, 0))) (hk : k < 64) (hw : ws.length = 64) :
    RC w g5 g6 g7 k t (Ks.getD k 0) (ws.getD k 0) := by
  obtain ⟨hc, _⟩ := blk h7
  exact ⟨hc 0, hc 1, hc 2, hc 3, hc 4, hc 5, hc 6, hc 7, arr_cell h5 (by simpa [Ks] using hk), arr_cell h6 (by omega)⟩
theorem RC_drewN {w : World} {g5 g6 g7 k : Nat} {t : St} {kk ww : UInt32} (h : RC w g5 g6 g7 k t kk ww) (n : Nat) : RC (w.drewN n) g5 g6 g7 k t kk ww := h

set_option maxHeartbeats 1000000 in
set_option maxRecDepth 100000 in
theorem step_calls {e b0 : Nat} {v : Value} {x : List UInt8} (s : St) (w : World) (hv : Sl bv e w b0 v x) (hx : x.length = 64) :
    Calls Try.prog 52 #[.agg s.vs, v] w fun e w' => e = .returned (.agg (stepL s x).vs) ∧ Below w.heap.size w w' := by
  have HV := Aside0.mk hv
  have HX := Aside0.mk hx
  clear hv hx
  unfold St.vs qv
  go_enter Try.func52, Try.ntmps52
  go_upto_region 1 with fail
  go_cut [5, 6, 7] from 5 to 17 (fun p5 p6 p7 wx => Aside0 (∃ g5 g6 g7 : Nat, w.heap.size + 1 < g5 ∧ w.heap.size + 1 < g6 ∧ w.heap.size + 1 < g7 ∧ g5 ≠ g6 ∧ g5 ≠ g7 ∧ g6 ≠ g7 ∧ p5 = .pointer (some ⟨g5, 0, none⟩) ∧ p6 = .pointer (some ⟨g6, 0, none⟩) ∧ p7 = .pointer (some ⟨g7, 0, none⟩) ∧
    wx.heap[g5]? = some (.cells (Ks.map qv).toArray 73 (0, 0)) ∧ wx.heap[g6]? = some (.cells ((sched x 64).map qv).toArray 73 (0, 0)) ∧ wx.heap[g7]? = some (.cells s.vs 68 (0, 0)) ∧
    wx.heap[w.heap.size]? = some (.cells s.vs 68 (0, 0)) ∧ wx.heap[w.heap.size + 1]? = some (.cells (Zs 8) 68 (0, 0)) ∧ Below w.heap.size w wx))
  case first =>
    refine wp_region_from (by kernel_rfl) (fun a0 W => StepI a0 W s v x) ?_ ?_ ?_
    · exact ⟨by simp, rfl, rfl, fun _ _ _ _ _ _ _ _ => rfl, fun k => by simp at k, fun k => by simp at k, fun k => by simp at k, fun k => by simp at k, ⟨0, 0, 0, fun k => by simp at k, fun k => by simp at k, fun k => by simp at k, fun k => by simp at k, fun k => by simp at k, fun k => by simp at k⟩, (Below.refl _ _).drew, fun k => by simp at k, fun k => by simp at k, fun k => by simp at k⟩
    · intro l a wz hI hr
      have hno := ready_no hr
      have c0 : l.getD 0 false = true := by
        refine getD_tt (by rw [hI.sz]; decide) ?_
        cases hq : l.getD 0 true with
        | true => rfl
        | false =>
          refine absurd (mem_ready.2 ⟨hq, _, rfl, ?_⟩) (hno 0)
          intro e he hb
          simp at he
          repeat (first | (rcases he with rfl | he; (first | assumption | exact absurd hb (by decide))) | (subst he; (first | assumption | exact absurd hb (by decide))) | exact he.elim)
      have c1 : l.getD 1 false = true := by
        refine getD_tt (by rw [hI.sz]; decide) ?_
        cases hq : l.getD 1 true with
        | true => rfl
        | false =>
          refine absurd (mem_ready.2 ⟨hq, _, rfl, ?_⟩) (hno 1)
          intro e he hb
          simp at he
          repeat (first | (rcases he with rfl | he; (first | assumption | exact absurd hb (by decide))) | (subst he; (first | assumption | exact absurd hb (by decide))) | exact he.elim)
      have c2 : l.getD 2 false = true := by
        refine getD_tt (by rw [hI.sz]; decide) ?_
        cases hq : l.getD 2 true with
        | true => rfl
        | false =>
          refine absurd (mem_ready.2 ⟨hq, _, rfl, ?_⟩) (hno 2)
          intro e he hb
          simp at he
          repeat (first | (rcases he with rfl | he; (first | assumption | exact absurd hb (by decide))) | (subst he; (first | assumption | exact absurd hb (by decide))) | exact he.elim)
      have c4 : l.getD 4 false = true := by
        refine getD_tt (by rw [hI.sz]; decide) ?_
        cases hq : l.getD 4 true with
        | true => rfl
        | false =>
          refine absurd (mem_ready.2 ⟨hq, _, rfl, ?_⟩) (hno 4)
          intro e he hb
          simp at he
          repeat (first | (rcases he with rfl | he; (first | assumption | exact absurd hb (by decide))) | (subst he; (first | assumption | exact absurd hb (by decide))) | exact he.elim)
      have c5 : l.getD 5 false = true := by
        refine getD_tt (by rw [hI.sz]; decide) ?_
        cases hq : l.getD 5 true with
        | true => rfl
        | false =>
          refine absurd (mem_ready.2 ⟨hq, _, rfl, ?_⟩) (hno 5)
          intro e he hb
          simp at he
          repeat (first | (rcases he with rfl | he; (first | assumption | exact absurd hb (by decide))) | (subst he; (first | assumption | exact absurd hb (by decide))) | exact he.elim)
      have c6 : l.getD 6 false = true := by
        refine getD_tt (by rw [hI.sz]; decide) ?_
        cases hq : l.getD 6 true with
        | true => rfl
        | false =>
          refine absurd (mem_ready.2 ⟨hq, _, rfl, ?_⟩) (hno 6)
          intro e he hb
          simp at he
          repeat (first | (rcases he with rfl | he; (first | assumption | exact absurd hb (by decide))) | (subst he; (first | assumption | exact absurd hb (by decide))) | exact he.elim)
      have c7 : l.getD 7 false = true := by
        refine getD_tt (by rw [hI.sz]; decide) ?_
        cases hq : l.getD 7 true with
        | true => rfl
        | false =>
          refine absurd (mem_ready.2 ⟨hq, _, rfl, ?_⟩) (hno 7)
          intro e he hb
          simp at he
          repeat (first | (rcases he with rfl | he; (first | assumption | exact absurd hb (by decide))) | (subst he; (first | assumption | exact absurd hb (by decide))) | exact he.elim)
      have c8 : l.getD 8 false = true := by
        refine getD_tt (by rw [hI.sz]; decide) ?_
        cases hq : l.getD 8 true with
        | true => rfl
        | false =>
          refine absurd (mem_ready.2 ⟨hq, _, rfl, ?_⟩) (hno 8)
          intro e he hb
          simp at he
          repeat (first | (rcases he with rfl | he; (first | assumption | exact absurd hb (by decide))) | (subst he; (first | assumption | exact absurd hb (by decide))) | exact he.elim)
      have c3 : l.getD 3 false = true := by
        refine getD_tt (by rw [hI.sz]; decide) ?_
        cases hq : l.getD 3 true with
        | true => rfl
        | false =>
          refine absurd (mem_ready.2 ⟨hq, _, rfl, ?_⟩) (hno 3)
          intro e he hb
          simp at he
          repeat (first | (rcases he with rfl | he; (first | assumption | exact absurd hb (by decide))) | (subst he; (first | assumption | exact absurd hb (by decide))) | exact he.elim)
      have c9 : l.getD 9 false = true := by
        refine getD_tt (by rw [hI.sz]; decide) ?_
        cases hq : l.getD 9 true with
        | true => rfl
        | false =>
          refine absurd (mem_ready.2 ⟨hq, _, rfl, ?_⟩) (hno 9)
          intro e he hb
          simp at he
          repeat (first | (rcases he with rfl | he; (first | assumption | exact absurd hb (by decide))) | (subst he; (first | assumption | exact absurd hb (by decide))) | exact he.elim)
      clear hno hr
      obtain ⟨g5, g6, g7, rfl, q5, q6, q7, e1, e2, e3, f5, f6, f7⟩ := hI.frame rfl (fun j hj => match j, hj with | 0, _ => c0 | 1, _ => c1 | 2, _ => c2 | 3, _ => c3 | 4, _ => c4 | 5, _ => c5 | 6, _ => c6 | 7, _ => c7 | 8, _ => c8 | 9, _ => c9)
      have hlow := hI.low
      have h9 : Aside0 (∃ G5 G6 G7 : Nat, w.heap.size + 1 < G5 ∧ w.heap.size + 1 < G6 ∧ w.heap.size + 1 < G7 ∧ G5 ≠ G6 ∧ G5 ≠ G7 ∧ G6 ≠ G7 ∧ Value.pointer (some ⟨g5, 0, none⟩) = .pointer (some ⟨G5, 0, none⟩) ∧ Value.pointer (some ⟨g6, 0, none⟩) = .pointer (some ⟨G6, 0, none⟩) ∧ Value.pointer (some ⟨g7, 0, none⟩) = .pointer (some ⟨G7, 0, none⟩) ∧
          wz.heap[G5]? = some (.cells (Ks.map qv).toArray 73 (0, 0)) ∧ wz.heap[G6]? = some (.cells ((sched x 64).map qv).toArray 73 (0, 0)) ∧ wz.heap[G7]? = some (.cells s.vs 68 (0, 0)) ∧
          wz.heap[w.heap.size]? = some (.cells s.vs 68 (0, 0)) ∧ wz.heap[w.heap.size + 1]? = some (.cells (Zs 8) 68 (0, 0)) ∧ Below w.heap.size w wz) :=
        ⟨g5, g6, g7, by simp at q5; omega, by simp at q6; omega, by simp at q7; omega, e1, e2, e3, rfl, rfl, rfl, f5, f6, f7, below_heap hlow (heap_old (heap_new rfl)), below_heap hlow (heap_new (by simp)), below_step (((Below.refl _ _).alloc (Nat.le_refl _) _).alloc (by simp) _) hlow⟩
      clear hI hlow e1 e2 e3 f5 f6 f7 q5 q6 q7 c0 c1 c2 c3 c4 c5 c6 c7 c8 c9
      unfold seven
      simp only [Act.put, List.setIfInBounds_toArray, List.set_cons_zero, List.set_cons_succ]
      go_wp2_with fail
      go_meet
      exact h9
    · intro l a wz i hI hi
      obtain ⟨hi0, o, ho, hdep⟩ := mem_ready.1 hi
      have hlt : i < 10 := (Array.getElem?_eq_some_iff.1 ho).1
      match i, hlt with
      | 0, _ =>
        obtain rfl := Option.some.inj ho
        refine wpOp_plain ho rfl (op_call 56 #[] #[] rfl _ rfl rfl rfl #[] (by simp) ((const_calls wz).mono ?_))
        rintro e w' ⟨rfl, hb⟩
        exact ⟨_, rfl, (hI.go hb).m0⟩
      | 1, _ =>
        obtain rfl := Option.some.inj ho
        refine wpOp_plain ho rfl (op_move (.tmp 1) rfl ?_)
        rw [tmp_at ((hI.same 1 (by decide) (by decide) (by decide) (by decide) (by decide) (by decide) (by decide)).trans rfl)]
        exact hI.m1
      | 2, _ =>
        obtain rfl := Option.some.inj ho
        have hd := hdep ⟨1, .data⟩ (by simp) rfl
        refine wpOp_plain ho rfl (op_call 57 #[.tmp 15] #[22] rfl _ rfl rfl rfl #[v] (by simp [tmp_at (hI.s15 hd)]) ((spread_calls (b0 := b0) (e := e) (x := x) wz (HV.out.below (below_step ((((Below.refl _ _).alloc (Nat.le_refl _) _).alloc (by simp) _)) hI.low)) HX.out).mono ?_))
        rintro e w' ⟨rfl, hb⟩
        exact ⟨_, rfl, (hI.go hb).m2⟩
      | 3, _ =>
        obtain rfl := Option.some.inj ho
        refine wpOp_plain ho rfl (wp_load_row 68 (.tmp 2) rfl w.heap.size (tmp_at ((hI.same 2 (by decide) (by decide) (by decide) (by decide) (by decide) (by decide) (by decide)).trans rfl)) 68 s.vs (0, 0) _ ?_ Try.underlying68 rfl info_state hI.m3)
        exact below_heap hI.low (heap_old (heap_new rfl))
      | 4, _ =>
        obtain rfl := Option.some.inj ho
        exact wpOp_plain ho rfl (op_alloc 73 rfl _ _ (alloc_arr wz) (hI.m4 hi0))
      | 5, _ =>
        obtain rfl := Option.some.inj ho
        exact wpOp_plain ho rfl (op_alloc 73 rfl _ _ (alloc_arr wz) (hI.m5 hi0))
      | 6, _ =>
        obtain rfl := Option.some.inj ho
        exact wpOp_plain ho rfl (op_alloc 68 rfl _ _ (alloc_st wz) (hI.m6 hi0))
      | 7, _ =>
        obtain rfl := Option.some.inj ho
        have hd := hdep ⟨4, .data⟩ (by simp) rfl
        have hd2 := hdep ⟨0, .data⟩ (by simp) rfl
        obtain ⟨g5, g6, g7, h5, h6, h7, d1, d2, d3⟩ := hI.blocks
        have hh := (h5 hd).2.2
        rw [getD_tf hi0] at hh
        refine wpOp_plain ho rfl (wp_store_arr 73 (.tmp 5) (.tmp 14) rfl g5 KsA _ _ (tmp_at (h5 hd).1) (tmp_at (hI.s14 hd2)) hh (by rw [if_neg (by decide), size_Zs, size_KsA]) (by rw [size_KsA]; exact info_u32x64) (one_qv _) ?_)
        intro w' hh' hgr
        exact hI.m7 hd (getD_tf hi0) (h5 hd).1 hh' hgr
      | 8, _ =>
        obtain rfl := Option.some.inj ho
        have hd := hdep ⟨5, .data⟩ (by simp) rfl
        have hd2 := hdep ⟨2, .data⟩ (by simp) rfl
        obtain ⟨g5, g6, g7, h5, h6, h7, d1, d2, d3⟩ := hI.blocks
        have hh := (h6 hd).2.2
        rw [getD_tf hi0] at hh
        refine wpOp_plain ho rfl (wp_store_arr 73 (.tmp 6) (.tmp 16) rfl g6 (scA x) _ _ (tmp_at (h6 hd).1) (tmp_at (hI.s16 hd2)) hh (by rw [if_neg (by decide), size_Zs, size_scA]) (by rw [size_scA]; exact info_u32x64) (one_qv _) ?_)
        intro w' hh' hgr
        exact hI.m8 hd (getD_tf hi0) (h6 hd).1 hh' hgr
      | 9, _ =>
        obtain rfl := Option.some.inj ho
        have hd := hdep ⟨6, .data⟩ (by simp) rfl
        have hd2 := hdep ⟨3, .data⟩ (by simp) rfl
        obtain ⟨g5, g6, g7, h5, h6, h7, d1, d2, d3⟩ := hI.blocks
        have hh := (h7 hd).2.2
        rw [getD_tf hi0] at hh
        refine wpOp_plain ho rfl (wp_store_arr 68 (.tmp 7) (.tmp 17) rfl g7 s.vs _ _ (tmp_at (h7 hd).1) (tmp_at (hI.s17 hd2)) hh (by rw [if_neg (by decide), size_Zs, size_vs]) (by rw [size_vs]; exact info_state) (one_vs s) ?_)
        intro w' hh' hgr
        exact hI.m9 hd (getD_tf hi0) (h7 hd).1 hh' hgr
  case rest =>
    obtain ⟨g5, g6, g7, q5, q6, q7, e1, e2, e3, rfl, rfl, rfl, f5, f6, f7, fs, fr, hb⟩ := hcut.out
    have HQ := Aside0.mk (And.intro q5 (And.intro q6 (And.intro q7 (And.intro e1 (And.intro e2 e3)))))
    have H0 := Aside0.mk (show wc.heap[g7]? = some (.cells (rnds (sched x 64) s 0).vs 68 (0, 0)) ∧ wc.heap[g5]? = some (.cells (Ks.map qv).toArray 73 (0, 0)) ∧ wc.heap[g6]? = some (.cells ((sched x 64).map qv).toArray 73 (0, 0)) ∧
      wc.heap[w.heap.size]? = some (.cells s.vs 68 (0, 0)) ∧ wc.heap[w.heap.size + 1]? = some (.cells (Zs 8) 68 (0, 0)) ∧ Below w.heap.size w wc from ⟨f7, f5, f6, fs, fr, hb⟩)
    clear q5 q6 q7 e1 e2 e3 f5 f6 f7 fs fr hb hcut
    go_wp2_with fail
    go_loopw [18] (fun i wr => ∃ k : Nat, k ≤ 64 ∧ i = .int .i64 k ∧ Aside0 (wr.heap[g7]? = some (.cells (rnds (sched x 64) s k).vs 68 (0, 0)) ∧ wr.heap[g5]? = some (.cells (Ks.map qv).toArray 73 (0, 0)) ∧ wr.heap[g6]? = some (.cells ((sched x 64).map qv).toArray 73 (0, 0)) ∧
      wr.heap[w.heap.size]? = some (.cells s.vs 68 (0, 0)) ∧ wr.heap[w.heap.size + 1]? = some (.cells (Zs 8) 68 (0, 0)) ∧ Below w.heap.size w wr)) (fun i wr => 64 - (intOf i).toNat)
    case atStart => exact ⟨0, by omega, rfl, H0⟩
    case round =>
      obtain ⟨k, hk, rfl, hs⟩ := hrel
      clear H0
      by_cases hlt : k < 64
      · have HR := Aside0.mk (RC_of hs.out.2.1 hs.out.2.2.1 hs.out.1 hlt (sched_length x 64))
        obtain ⟨t, ht⟩ : ∃ t, t = rnds (sched x 64) s k := ⟨_, rfl⟩
        obtain ⟨kk, hkk⟩ : ∃ t, t = Ks.getD k 0 := ⟨_, rfl⟩
        obtain ⟨ww, hww⟩ : ∃ t, t = (sched x 64).getD k 0 := ⟨_, rfl⟩
        rw [← ht, ← hkk, ← hww] at HR
        have HT := Aside0.mk (And.intro ht (And.intro hkk hww))
        clear ht hkk hww
        obtain ⟨c0, c1, c2, c3, c4, c5, c6, c7, ck, cw⟩ := HR.out
        go_wp2_with fail
        go_quiet (fail)
        obtain ⟨wq, hwq⟩ : ∃ wq, wq = wr.drewN nq := ⟨_, rfl⟩
        have HS3 := Aside0.mk (show RC wq g5 g6 g7 k t kk ww by rw [hwq]; exact RC_drewN HR.out nq)
        rw [← hwq]
        have HWQ := Aside0.mk hwq
        clear c0 c1 c2 c3 c4 c5 c6 c7 ck cw hwq
        obtain ⟨c0, c1, c2, c3, c4, c5, c6, c7, ck, cw⟩ := HS3.out
        go_wp2_with fail
        go_quiet (first | ((go_at_call_of 58 (Value.int IntKind.i64 6); exact Calls.quiet_of_same (turn_6 _ _))) | ((go_at_call_of 58 (Value.int IntKind.i64 11); exact Calls.quiet_of_same (turn_11 _ _))) | ((go_at_call_of 58 (Value.int IntKind.i64 25); exact Calls.quiet_of_same (turn_25 _ _))))
        obtain ⟨wq2, hwq2⟩ : ∃ wq2, wq2 = wq.drewN nq := ⟨_, rfl⟩
        have HS4 := Aside0.mk (show RC wq2 g5 g6 g7 k t kk ww by rw [hwq2]; exact RC_drewN HS3.out nq)
        rw [← hwq2]
        have HWQ2 := Aside0.mk hwq2
        clear c0 c1 c2 c3 c4 c5 c6 c7 ck cw hwq2
        obtain ⟨c0, c1, c2, c3, c4, c5, c6, c7, ck, cw⟩ := HS4.out
        go_wp2_with fail
        rw [one_eq]
        obtain ⟨o1, ho1⟩ : ∃ o1, o1 = rOne t kk ww := ⟨_, rfl⟩
        rw [← ho1]
        have HO1 := Aside0.mk ho1
        clear ho1
        go_quiet (first | ((go_at_call_of 58 (Value.int IntKind.i64 2); exact Calls.quiet_of_same (turn_2 _ _))) | ((go_at_call_of 58 (Value.int IntKind.i64 13); exact Calls.quiet_of_same (turn_13 _ _))) | ((go_at_call_of 58 (Value.int IntKind.i64 22); exact Calls.quiet_of_same (turn_22 _ _))))
        obtain ⟨wq3, hwq3⟩ : ∃ wq3, wq3 = wq2.drewN nq := ⟨_, rfl⟩
        have HS5 := Aside0.mk (show RC wq3 g5 g6 g7 k t kk ww by rw [hwq3]; exact RC_drewN HS4.out nq)
        have hs2 : wq3.heap = wr.heap ∧ Below w.heap.size w wq3 := by
          rw [hwq3, HWQ2.out, HWQ.out]
          exact ⟨rfl, below_drewN (below_drewN (below_drewN hs.out.2.2.2.2.2 _) _) _⟩
        have HS6 := Aside0.mk hs2
        rw [← hwq3]
        clear c0 c1 c2 c3 c4 c5 c6 c7 ck cw hwq3 hs2
        obtain ⟨c0, c1, c2, c3, c4, c5, c6, c7, ck, cw⟩ := HS5.out
        have hg7 : wq3.heap[g7]? = some (.cells t.vs 68 (0, 0)) := by rw [HS6.out.1, HT.out.1]; exact hs.out.1
        have HG7 := Aside0.mk hg7
        clear hg7
        go_wp2_with (refine wpList_store_arr rfl 68 (.tmp 7) (.tmp 96) rfl g7 _ _ 68 rfl rfl HG7.out (by rfl) info_state (by simp [Value.oneCell']) ?_; intro w5 hh5 hgr5)
        rw [two_eq', q_sum2] at hh5
        have hh6 : w5.heap[g7]? = some (.cells (rnds (sched x 64) s (k + 1)).vs 68 (0, 0)) := by
          rw [hh5, rnds, ← HT.out.1, ← HT.out.2.1, ← HT.out.2.2, HO1.out]; rfl
        have hq := HQ.out
        have hlow := hs.out.2.2.2.2.2
        have hK : ∀ (g : Nat) (o : Obj), g ≠ g7 → wr.heap[g]? = some o → w5.heap[g]? = some o := fun g o hne h => by
          have h' : wq3.heap[g]? = some o := by rw [HS6.out.1]; exact h
          exact (hgr5.block g (blk_lt h') (fun e => hne (Option.some.inj e))).trans h'
        refine ⟨⟨k + 1, by omega, by go_num, ⟨hh6, hK _ _ hq.2.2.2.2.1 hs.out.2.1, hK _ _ hq.2.2.2.2.2 hs.out.2.2.1, hK _ _ (by omega) hs.out.2.2.2.1, hK _ _ (by omega) hs.out.2.2.2.2.1, HS6.out.2.grown hgr5 HS6.out.2.size (fun j hj => by cases hj; omega)⟩⟩, by simp [intOf]; omega⟩
      · obtain rfl : k = 64 := by omega
        obtain ⟨t, ht⟩ : ∃ t, t = rnds (sched x 64) s 64 := ⟨_, rfl⟩
        rw [← ht] at hs
        have HT := Aside0.mk ht
        clear ht
        have H1 := Aside0.mk (show wr.heap[g7]? = some (.cells ((part t s 0).map qv).toArray 68 (0, 0)) ∧ wr.heap[w.heap.size]? = some (.cells (s.l.map qv).toArray 68 (0, 0)) ∧ wr.heap[w.heap.size + 1]? = some (.cells (Zs 8) 68 (0, 0)) ∧ Below w.heap.size w wr from
          ⟨hs.out.1, hs.out.2.2.2.1, hs.out.2.2.2.2.1, hs.out.2.2.2.2.2⟩)
        clear hs hk hlt
        obtain ⟨wo, rfl⟩ : ∃ wo : World, wo = wr := ⟨_, rfl⟩
        go_wp2_with fail
        go_loopw [98] (fun i wr => ∃ k : Nat, k ≤ 8 ∧ i = .int .i64 k ∧ Aside0 (wr.heap[g7]? = some (.cells ((part t s k).map qv).toArray 68 (0, 0)) ∧ wr.heap[w.heap.size]? = some (.cells (s.l.map qv).toArray 68 (0, 0)) ∧ wr.heap[w.heap.size + 1]? = some (.cells (Zs 8) 68 (0, 0)) ∧ Below w.heap.size w wr)) (fun i wr => 8 - (intOf i).toNat)
        case atStart => exact ⟨0, by omega, rfl, H1⟩
        case round =>
          obtain ⟨k, hk, rfl, hs⟩ := hrel
          clear H1
          by_cases hlt : k < 8
          · have c1 := arr_cell hs.out.1 (by rw [part_length t s k hk]; exact hlt)
            rw [part_at t s k hlt] at c1
            have c2 := arr_cell hs.out.2.1 (show k < s.l.length by exact hlt)
            have f1 := (blk hs.out.1).2 k
            obtain ⟨tk, htk⟩ : ∃ z, z = t.l.getD k 0 := ⟨_, rfl⟩
            obtain ⟨sk, hsk⟩ : ∃ z, z = s.l.getD k 0 := ⟨_, rfl⟩
            rw [← htk] at c1
            rw [← hsk] at c2
            have HK := Aside0.mk (And.intro htk hsk)
            have hb1 : (k : Int) < 8 := by omega
            have hb0 : (0 : Int) ≤ (k : Int) := by omega
            clear htk hsk
            go_wp2_with fail
            go_region
            go_wp2_with fail
            have hq := HQ.out
            have e1 : ((part t s k).map qv).toArray.setIfInBounds k (.int .u32 (((tk + sk : UInt32).toNat : Nat) : Int)) = ((part t s (k + 1)).map qv).toArray := by rw [HK.out.1, HK.out.2]; exact part_set t s k hlt
            rw [q_sum2]
            refine ⟨⟨k + 1, by omega, by go_num, ⟨?_, ?_, ?_, ?_⟩⟩, by simp [intOf]; omega⟩
            · rw [← e1]; exact arr_set hs.out.1
            · exact heap_set (by show w.heap.size ≠ g7; omega) hs.out.2.1
            · exact heap_set (by show w.heap.size + 1 ≠ g7; omega) hs.out.2.2.1
            · exact (hs.out.2.2.2.setCell (by show w.heap.size ≤ g7; omega) _).drew
          · obtain rfl : k = 8 := by omega
            have hsf : (t.add s) = stepL s x := by rw [HT.out]; rfl
            have hg7 : wr.heap[g7]? = some (.cells (t.add s).vs 68 (0, 0)) := by rw [hs.out.1, part_eight]; rfl
            have hg4 := hs.out.2.2.1
            have hlow := hs.out.2.2.2
            have HQQ := Aside0.mk hg7
            have HQ4 := Aside0.mk hg4
            clear hg7 hg4 hs
            have HSF := Aside0.mk hsf
            clear hsf
            go_wp2_with (first | (refine wpList_load_row rfl 68 (.tmp 7) rfl g7 rfl 68 _ (0, 0) _ HQQ.out Try.underlying68 rfl info_state ?_) | (refine wpList_store_arr rfl 68 (.tmp 4) (.tmp 110) rfl (w.heap.size + 1) (t.add s).vs _ 68 rfl rfl HQ4.out (by rw [size_Zs]; rfl) info_state (one_vs _) ?_; intro w6 hh6 hgr6))
            refine bodyPost_ret (v := .agg (t.add s).vs) (results_cell_row rfl _ _ (w.heap.size + 1) 68 _ (0, 0) _ rfl hh6 Try.underlying68 rfl info_state) rfl ⟨by rw [HSF.out]; rfl, hlow.grown hgr6 hlow.size (fun j hj => by cases hj; omega)⟩
end
end Go.Proofs.Ytdikconhdbopdaa
