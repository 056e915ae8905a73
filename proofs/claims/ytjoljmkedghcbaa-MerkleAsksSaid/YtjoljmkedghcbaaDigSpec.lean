/-
  SHA-256 in plain Lean: the schedule, the rounds, a block, the padding, the sum. No condition.
-/
import Derived.Test.YtjoljmkedghcbaaDigWords
namespace Go.Proofs.Ytjoljmkedghcbaa
open Go.RowKit
set_option linter.unusedVariables false
set_option linter.unusedSimpArgs false

/-- The next word of the schedule, of those so far. -/
def nextW (l : List UInt32) (n : Nat) : UInt32 :=
  l.getD (n - 16) 0 + (rotr (l.getD (n - 15) 0) 7 ^^^ rotr (l.getD (n - 15) 0) 18 ^^^ l.getD (n - 15) 0 >>> UInt32.ofNat 3) + l.getD (n - 7) 0 + (rotr (l.getD (n - 2) 0) 17 ^^^ rotr (l.getD (n - 2) 0) 19 ^^^ l.getD (n - 2) 0 >>> UInt32.ofNat 10)
/-- A block's word. -/
def wordAt (b : List UInt8) (i : Nat) : UInt32 := wordL (b.getD (4 * i) 0) (b.getD (4 * i + 1) 0) (b.getD (4 * i + 2) 0) (b.getD (4 * i + 3) 0)
/-- The first n words of a block's schedule. -/
def sched (b : List UInt8) : Nat → List UInt32
  | 0 => []
  | n + 1 => sched b n ++ [if n < 16 then wordAt b n else nextW (sched b n) n]
theorem sched_length (b : List UInt8) : ∀ n, (sched b n).length = n
  | 0 => rfl
  | n + 1 => by rw [sched, List.length_append, sched_length b n]; rfl
/-- Eight words. -/
structure St where mk :: (a : UInt32) (b : UInt32) (c : UInt32) (d : UInt32) (e : UInt32) (f : UInt32) (g : UInt32) (h : UInt32)
/-- Their values. -/
def St.vs (s : St) : Array Value := #[qv s.a, qv s.b, qv s.c, qv s.d, qv s.e, qv s.f, qv s.g, qv s.h]
def rOne (s : St) (k w : UInt32) : UInt32 := s.h + (rotr s.e 6 ^^^ rotr s.e 11 ^^^ rotr s.e 25) + (s.e &&& s.f ^^^ ~~~s.e &&& s.g) + k + w
def rTwo (s : St) : UInt32 := (rotr s.a 2 ^^^ rotr s.a 13 ^^^ rotr s.a 22) + (s.a &&& s.b ^^^ s.a &&& s.c ^^^ s.b &&& s.c)
/-- A round. -/
def rnd (s : St) (k w : UInt32) : St := ⟨rOne s k w + rTwo s, s.a, s.b, s.c, s.d + rOne s k w, s.e, s.f, s.g⟩
def Ks : List UInt32 := [1116352408, 1899447441, 3049323471, 3921009573, 961987163, 1508970993, 2453635748, 2870763221, 3624381080, 310598401, 607225278, 1426881987, 1925078388, 2162078206, 2614888103, 3248222580, 3835390401, 4022224774, 264347078, 604807628, 770255983, 1249150122, 1555081692, 1996064986, 2554220882, 2821834349, 2952996808, 3210313671, 3336571891, 3584528711, 113926993, 338241895, 666307205, 773529912, 1294757372, 1396182291, 1695183700, 1986661051, 2177026350, 2456956037, 2730485921, 2820302411, 3259730800, 3345764771, 3516065817, 3600352804, 4094571909, 275423344, 430227734, 506948616, 659060556, 883997877, 958139571, 1322822218, 1537002063, 1747873779, 1955562222, 2024104815, 2227730452, 2361852424, 2428436474, 2756734187, 3204031479, 3329325298]
/-- The first n rounds. -/
def rnds (ws : List UInt32) (s : St) : Nat → St
  | 0 => s
  | n + 1 => rnd (rnds ws s n) (Ks.getD n 0) (ws.getD n 0)
def St.add (s t : St) : St := ⟨s.a + t.a, s.b + t.b, s.c + t.c, s.d + t.d, s.e + t.e, s.f + t.f, s.g + t.g, s.h + t.h⟩
/-- A block is taken in. -/
def stepL (s : St) (b : List UInt8) : St := (rnds (sched b 64) s 64).add s
def St0 : St := ⟨1779033703, 3144134277, 1013904242, 2773480762, 1359893119, 2600822924, 528734635, 1541459225⟩
/-- Whole blocks are taken in. -/
def blocksL (s : St) : Nat → List UInt8 → St
  | 0, _ => s
  | n + 1, m => blocksL (stepL s (m.take 64)) n (m.drop 64)
def bytesW (x : UInt32) : List UInt8 := [(x >>> 24).toUInt8, (x >>> 16).toUInt8, (x >>> 8).toUInt8, x.toUInt8]
def St.bytes (s : St) : List UInt8 := bytesW s.a ++ bytesW s.b ++ bytesW s.c ++ bytesW s.d ++ bytesW s.e ++ bytesW s.f ++ bytesW s.g ++ bytesW s.h
/-- How many bytes of nothing stand behind the mark. -/
def zerosN (n : Nat) : Nat := (119 - n % 64) % 64
/-- The length in bits, eight bytes, the greatest first. -/
def lenB (n : Nat) : List UInt8 := [UInt8.ofNat (n * 8 / 2 ^ 56), UInt8.ofNat (n * 8 / 2 ^ 48), UInt8.ofNat (n * 8 / 2 ^ 40), UInt8.ofNat (n * 8 / 2 ^ 32), UInt8.ofNat (n * 8 / 2 ^ 24), UInt8.ofNat (n * 8 / 2 ^ 16), UInt8.ofNat (n * 8 / 2 ^ 8), UInt8.ofNat (n * 8)]
def padL (n : Nat) : List UInt8 := 128 :: (List.replicate (zerosN n) 0 ++ lenB n)
/-- The sum. -/
def shaL (b : List UInt8) : List UInt8 := (blocksL St0 ((b ++ padL b.length).length / 64) (b ++ padL b.length)).bytes
end Go.Proofs.Ytjoljmkedghcbaa
