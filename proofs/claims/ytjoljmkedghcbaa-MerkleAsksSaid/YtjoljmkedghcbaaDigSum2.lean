/-
  The hasher's Sum. No condition but that the hasher's cells are known.
-/
import Derived.Test.YtjoljmkedghcbaaDigSum
namespace Go.Proofs.Ytjoljmkedghcbaa
open Go.RowKit
set_option linter.unusedVariables false
set_option linter.unusedSimpArgs false

/-- A row of bytes of the call's own, all below its base as it was. -/
def Grow (W w : World) (v : Value) (x : List UInt8) : Prop := w.ownsRow W.heap.size 5 1 v x.length (x.map bv) ∧ Below W.heap.size W w

theorem Grow.refl0 (W : World) : Grow W W (.slice none 0 0) [] := ⟨World.ownsRow_nil _ _ _ _, Below.refl _ _⟩
theorem Grow.shape {W w : World} {v : Value} {x : List UInt8} (h : Grow W w v x) : ∃ A c, v = .slice A x.length c := by
  rcases h.1.2 with ⟨rfl, h0⟩ | ⟨g, cap, cur, rfl, _⟩
  · exact ⟨_, _, by rw [h0]⟩
  · exact ⟨_, _, rfl⟩
/-- Bytes that lie in a new block are appended. -/
theorem append_grow {P : Program} {ops : Array Oper} {rest : List Oper} {o : Oper} {a : Act} {Q : Exit → Act → World → Prop} {W w : World} (hP : P = Try.prog) (hgd : o.guard = none) (s x : Operand)
    (ho : o.op = .call { callee := .builtin .append, args := #[s, x], argTypes := #[22, 22] }) (v : Value) (xs ys : List UInt8) (n : Nat) (hn : n = ys.length) (cells : Array Value) (hcells : cells = (ys.map bv).toArray)
    (hs : a.eval s = v) (hx : a.eval x = .slice (some ⟨w.heap.size, 0, none⟩) n n) (h : Grow W w v xs) (hl : xs.length + ys.length ≤ 70368744177664)
    (hk : ∀ v' w', Grow W w' v' (xs ++ ys) → wpList P ops Q rest (a.put o.dst v') w') : wpList P ops Q (o :: rest) a (w.alloc (.cells cells 5)) := by
  subst hP hn hcells
  have hb : Below w.heap.size w (w.alloc (.cells (ys.map bv).toArray 5)) := (Below.refl _ _).alloc (Nat.le_refl _) _
  refine append_row bv (fun _ => rfl) hgd s x 22 ho W.heap.size 5 5 0 _ _ Try.underlying22 info_u8 rfl (by decide) v xs ys _ hs hx (own_below h.1 hb) (Sl.at (heap_new rfl) ?_ rfl (Nat.le_refl _) (by omega)) (by omega) (Nat.le_trans h.2.size hb.size) ?_
  · rw [List.take_of_length_le (by simp)]
  · intro v' w' hown hg _
    exact hk v' w' ⟨hown, (below_step h.2 hb).grown hg (below_step h.2 hb).size (own_base h.1)⟩

theorem bytes4 (x : UInt32) : (#[Value.int .u8 ((x.toNat : Int) / 16777216 % 256), .int .u8 ((x.toNat : Int) / 65536 % 256), .int .u8 ((x.toNat : Int) / 256 % 256), .int .u8 ((x.toNat : Int) % 256)] : Array Value) = ((bytesW x).map bv).toArray := by
  have e1 := byte_at x 24 (by omega)
  have e2 := byte_at x 16 (by omega)
  have e3 := byte_at x 8 (by omega)
  rw [byte_zero, show (16777216 : Int) = 2 ^ 24 from rfl, show (65536 : Int) = 2 ^ 16 from rfl]
  have e3' : (x.toNat : Int) / 256 % 256 = (((x >>> UInt32.ofNat 8).toUInt8).toNat : Int) := e3
  rw [e1, e2, e3']
  rfl
theorem index_st (s : St) (k : Nat) (h : k < 8) (w : World) : (Instr.index 54 (.agg #[.int .u32 (s.a.toNat : Int), .int .u32 (s.b.toNat : Int), .int .u32 (s.c.toNat : Int), .int .u32 (s.d.toNat : Int), .int .u32 (s.e.toNat : Int), .int .u32 (s.f.toNat : Int), .int .u32 (s.g.toNat : Int), .int .u32 (s.h.toNat : Int)]) (.int .i64 (k : Int))).run Try.prog w = .ok (.int .u32 ((([s.a, s.b, s.c, s.d, s.e, s.f, s.g, s.h] : List UInt32).getD k 0).toNat : Int)) w :=
  match k, h with
  | 0, _ => by kernel_rfl | 1, _ => by kernel_rfl | 2, _ => by kernel_rfl | 3, _ => by kernel_rfl | 4, _ => by kernel_rfl | 5, _ => by kernel_rfl | 6, _ => by kernel_rfl | 7, _ => by kernel_rfl

set_option maxHeartbeats 4000000 in
set_option maxRecDepth 100000 in
theorem hsum_calls {g : Nat} {M : List UInt8} (w : World) (h : IsH w g M) (hl : M.length ≤ 1000000000000) :
    Calls Try.prog 38 #[.pointer (some ⟨g, 0, none⟩)] w fun e w' => ∃ v', e = .returned v' ∧ w'.ownsRow w.heap.size 5 1 v' (shaL M).length ((shaL M).map bv) ∧ Below w.heap.size w w' := by
  have H := Aside0.mk h
  have HL := Aside0.mk hl
  clear h
  go_enter Try.func38, Try.ntmps38
  go_wp2_with fail
  refine (copy_calls w H.out).mono ?_
  rintro e w1 ⟨c, rfl, hc, hi, hb⟩
  have HI := Aside0.mk hi
  have HB1 := Aside0.mk hb
  have HC := Aside0.mk hc
  have h10 : w1.cell? ⟨c, 10, none⟩ = some (.int .i64 (M.length : Int)) := by obtain ⟨_, _, _, h, _⟩ := hi; exact h.cells.2.2.1
  clear hi hb hc
  have H0 : ∀ o, o = Obj.cells #[Value.int .u8 128] 5 → Aside0 (Grow w1 (w1.alloc o) (.slice (some ⟨w1.heap.size, 0, none⟩) 1 1) (padZ 0)) := fun o ho => by
    subst ho
    exact ⟨⟨rfl, .inr ⟨_, 1, _, rfl, Nat.le_refl _, heap_new rfl, Nat.le_refl _, by decide, rfl, rfl⟩⟩, (Below.refl _ _).alloc (Nat.le_refl _) _⟩
  have H0 := Aside0.mk H0
  go_wp2_with fail
  go_loopw [5] (fun a wr => ∃ j : Nat, j ≤ zerosN M.length ∧ (∃ A cc, a = .slice A (j + 1) cc) ∧ Aside0 (Grow w1 wr a (padZ j))) (fun a wr => zerosN M.length - (match a with | .slice _ n _ => n - 1 | _ => 0))
  case atStart => exact ⟨0, Nat.zero_le _, ⟨_, _, rfl⟩, H0.out _ rfl⟩
  case round =>
    obtain ⟨j, hj, ⟨A, cc, rfl⟩, hs⟩ := hrel
    have h10 : wr.cell? ⟨c, 10, none⟩ = some (.int .i64 (M.length : Int)) := cell_keep hs.out.2 h10
    by_cases hlt : j < zerosN M.length
    · have hz := zeros_go M.length j hlt
      have hj2 : (j : Int) ≤ 64 := by have := zerosN_lt M.length; omega
      have hz' : (((M.length : Int) + ((j : Int) + 1)) % 64 != 56) = true := by simp; omega
      go_wp2_with (at_builtin; refine append_grow rfl rfl (.tmp 30) (.tmp 31) rfl _ (padZ j) [0] 1 rfl _ rfl rfl rfl hs.out (by have := zerosN_lt M.length; rw [padZ_length]; simp; omega) ?_; intro v' w' hG)
      have HG := Aside0.mk (show Grow w1 w' v' (padZ (j + 1)) by rw [← padZ_succ]; exact hG)
      have hsh := hG.shape
      rw [padZ_succ, padZ_length] at hsh
      clear hG
      go_roundw
      case rel => exact ⟨j + 1, by omega, hsh, HG⟩
      case measure =>
        obtain ⟨A', c', rfl⟩ := hsh
        simp; omega
    · have hjz : j = zerosN M.length := by omega
      have hj2 : (j : Int) ≤ 64 := by have := zerosN_lt M.length; omega
      have hz := zeros_end M.length
      have hz' : (((M.length : Int) + ((j : Int) + 1)) % 64 != 56) = false := by simp; omega
      have HZ := Aside0.mk hjz
      clear hlt hj hz H0 hjz
      go_wp2_with fail
      have H1 := Aside0.mk (show Grow w1 wr (.slice A (j + 1) cc) (padZ j ++ lenN M.length 0) by rw [show lenN M.length 0 = [] from rfl, List.append_nil]; exact hs.out)
      clear hs
      obtain ⟨wo, rfl⟩ : ∃ wo : World, wo = wr := ⟨_, rfl⟩
      go_loopw [5, 6] (fun a i wr => ∃ m : Nat, m ≤ 8 ∧ i = .int .i64 (7 - (m : Int)) ∧ (∃ A cc, a = .slice A (j + 1 + m) cc) ∧ Aside0 (Grow w1 wr a (padZ j ++ lenN M.length m))) (fun a i wr => (intOf i + 1).toNat)
      case atStart => exact ⟨0, by omega, rfl, ⟨_, _, rfl⟩, H1⟩
      case round =>
        obtain ⟨m, hm, rfl, ⟨A, cc, rfl⟩, hs⟩ := hrel
        by_cases hlt : m < 8
        · have hi0 : (0 : Int) ≤ 7 - (m : Int) := by omega
          have hi1 : 7 - (m : Int) ≤ 7 := by omega
          go_wp2_with (at_builtin; refine append_grow rfl rfl (.tmp 37) (.tmp 43) rfl _ (padZ j ++ lenN M.length m) [lenAt M.length m] 1 rfl _ (by rw [lenAt_value]; rfl) rfl rfl hs.out (by rw [List.length_append, padZ_length, lenN_length]; simp; omega) ?_; intro v' w' hG)
          have HG := Aside0.mk (show Grow w1 w' v' (padZ j ++ lenN M.length (m + 1)) by rw [lenN, ← List.append_assoc]; exact hG)
          have hsh := HG.out.shape
          rw [List.length_append, padZ_length, lenN_length, ← Nat.add_assoc] at hsh
          clear hG
          go_roundw
          case rel => exact ⟨m + 1, by omega, by go_num, hsh, HG⟩
          case measure => simp [intOf]; omega
        · have hm8 : m = 8 := by omega
          have HM8 := Aside0.mk hm8
          have hp : padZ j ++ lenN M.length m = padL M.length := by rw [hm8, HZ.out, padL_eq]
          rw [hp] at hs
          have hi0 : ¬ (0 : Int) ≤ 7 - (m : Int) := by omega
          have hpl := padL_length M.length
          have hzl := zerosN_lt M.length
          clear hp hm8 H1
          go_wp2_with fail
          refine (add_calls (b0 := 0) (M := M) (x := padL M.length) wr (HI.out.below hs.out.2) (Nat.zero_le _) (Sl.of_own hs.out.1) (by omega)).mono ?_
          rintro e w2 ⟨rfl, hi2, hg2⟩
          have hN : (M ++ padL M.length).length = M.length + (zerosN M.length + 9) := by rw [List.length_append, hpl]
          obtain ⟨S, on, wv, hB, hS, h3, h4⟩ := hi2
          have hon : on = true := by
            cases on with
            | true => rfl
            | false => have := h4 rfl; rw [this] at hN; simp at hN
          have hSS := h3 hon
          have HSS := Aside0.mk hSS
          have HB2 := Aside0.mk ((below_step HB1.out hs.out.2).grown hg2 (below_step HB1.out hs.out.2).size (fun k hk => by cases hk; exact HC.out))
          obtain ⟨k0, k1, k2, k3, k4, k5, k6, k7⟩ := hB.words
          clear hon hSS h3 h4 hS hB hg2 hN hpl hzl
          have H0 := Aside0.mk (show Grow w2 w2 (.slice none 0 0) (outL S 0) from Grow.refl0 _)
          go_wp2_with fail
          go_loopw [7, 52] (fun a i wr => ∃ k : Nat, k ≤ 8 ∧ i = .int .i64 (k : Int) ∧ Aside0 (Grow w2 wr a (outL S k))) (fun a i wr => 8 - (intOf i).toNat)
          case atStart => exact ⟨0, by omega, rfl, H0⟩
          case round =>
            obtain ⟨k, hk, rfl, hs2⟩ := hrel
            by_cases hlt2 : k < 8
            · have hix := index_st S k hlt2
              obtain ⟨xk, hxk⟩ : ∃ xk, xk = ([S.a, S.b, S.c, S.d, S.e, S.f, S.g, S.h] : List UInt32).getD k 0 := ⟨_, rfl⟩
              rw [← hxk] at hix
              have HXK := Aside0.mk hxk
              clear hxk
              go_wp2_with (at_builtin; refine append_grow rfl rfl (.tmp 55) (.tmp 67) rfl _ (outL S k) (bytesW xk) 4 rfl _ (bytes4 xk) rfl rfl hs2.out (by rw [outL_length]; simp [bytesW]; omega) ?_; intro v' w' hG)
              have HG := Aside0.mk (show Grow w2 w' v' (outL S (k + 1)) by rw [outL, ← HXK.out]; exact hG)
              clear hG
              go_roundw
              case rel => exact ⟨k + 1, by omega, by go_num, HG⟩
              case measure => simp [intOf]; omega
            · obtain rfl : k = 8 := by omega
              go_wp2_with fail
              go_ret
              have hfin : outL S 8 = shaL M := by rw [outL_eight, HSS.out, shaL_eq]
              rw [hfin] at hs2
              exact ⟨_, rfl, own_mono hs2.out.1 HB2.out.size, below_step HB2.out hs2.out.2⟩
end Go.Proofs.Ytjoljmkedghcbaa
