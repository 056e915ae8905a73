/-
  The reference reads a rule. No condition but a length.
-/
import Derived.Test.YtkalfkgnjmkjgaaDoorIgnRPure
import Derived.Laws.ResultCell
namespace Go.Proofs.YtkalfkgnjmkjgaaDoor
open Go.RowKit
set_option linter.unusedVariables false
set_option linter.unusedSimpArgs false

/-- What the reference's rule answers. -/
def RRulA (S : List UInt8) (w : World) (e : Ending) (w' : World) : Prop :=
  ∃ (p : ByteArray) (n d h : Bool), e = .returned (.tuple #[.agg #[.bool n, .bool d, .bool h, .string p], .bool (okR S)]) ∧ (okR S = true → p.data.toList = parT S ∧ n = parN S ∧ d = parD S ∧ h = parW S) ∧ Below w.heap.size w w'
theorem getD_str (s : ByteArray) (k : Nat) (hk : k < s.size) : s.data.toList.getD k 0 = s[k] := by
  have h : k < s.data.toList.length := by rw [Array.length_toList]; exact hk
  rw [List.getD_eq_getElem?_getD, List.getElem?_eq_getElem h]; rfl

set_option maxHeartbeats 4000000 in
set_option maxRecDepth 4000 in
theorem rrule_e (s : ByteArray) (w : World) (hz : s.size = 0) (hok : okR s.data.toList = false) :
    Calls Tryd.prog 32 #[.string s] w fun e w' => RRulA s.data.toList w e w' := by
  have HBAD := Aside0.mk hok
  clear hok
  go_enter Tryd.func32, Tryd.ntmps32
  go_wp2_with fail
  refine bodyPost_ret (v := .tuple #[.agg #[.bool false, .bool false, .bool false, .string ⟨#[]⟩], .bool false]) ?_ rfl ?_
  · rw [results_cell_tmp rfl]
    simp [asAddr, Result.andThen, loadVar, go_sem]
  · exact ⟨_, _, _, _, by rw [HBAD.out], fun h => absurd (HBAD.out.symm.trans h) (by decide), ((Below.refl _ _).alloc (Nat.le_refl _) _).alloc (by simp) _⟩

set_option maxHeartbeats 4000000 in
set_option maxRecDepth 4000 in
theorem rrule_ye (s : ByteArray) (w : World) (hz : s.size = 1) (e0 : (((s[0]'(by omega)).toNat : Int) == 33) = true) (hok : okR s.data.toList = false) :
    Calls Tryd.prog 32 #[.string s] w fun e w' => RRulA s.data.toList w e w' := by
  have HBAD := Aside0.mk hok
  clear hok
  go_enter Tryd.func32, Tryd.ntmps32
  go_wp2_with fail
  refine bodyPost_ret (v := .tuple #[.agg #[.bool false, .bool false, .bool false, .string ⟨#[]⟩], .bool false]) ?_ rfl ?_
  · rw [results_cell_tmp rfl]
    simp [asAddr, Result.andThen, loadVar, go_sem]
  · exact ⟨_, _, _, _, by rw [HBAD.out], fun h => absurd (HBAD.out.symm.trans h) (by decide), ((Below.refl _ _).alloc (Nat.le_refl _) _).alloc (by simp) _⟩

set_option maxHeartbeats 4000000 in
set_option maxRecDepth 4000 in
theorem rrule_yy0 (s : ByteArray) (w : World) (hz : s.size = 2) (e0 : (((s[0]'(by omega)).toNat : Int) == 33) = true) (hs1 : (s.extract 1 2).size = 1) (e1 : ((((s.extract 1 2)[0]'(by rw [hs1]; omega)).toNat : Int) == 47) = true) (hok : okR s.data.toList = false) :
    Calls Tryd.prog 32 #[.string s] w fun e w' => RRulA s.data.toList w e w' := by
  have HBAD := Aside0.mk hok
  clear hok
  go_enter Tryd.func32, Tryd.ntmps32
  go_wp2_with fail
  refine bodyPost_ret (v := .tuple #[.agg #[.bool false, .bool false, .bool false, .string ⟨#[]⟩], .bool false]) ?_ rfl ?_
  · rw [results_cell_tmp rfl]
    simp [asAddr, Result.andThen, loadVar, go_sem]
  · exact ⟨_, _, _, _, by rw [HBAD.out], fun h => absurd (HBAD.out.symm.trans h) (by decide), ((Below.refl _ _).alloc (Nat.le_refl _) _).alloc (by simp) _⟩

set_option maxHeartbeats 4000000 in
set_option maxRecDepth 4000 in
theorem rrule_ny0 (s : ByteArray) (w : World) (hz : s.size = 1) (e0 : (((s[0]'(by omega)).toNat : Int) == 33) = false) (e1 : (((s[0]'(by omega)).toNat : Int) == 47) = true) (hok : okR s.data.toList = false) :
    Calls Tryd.prog 32 #[.string s] w fun e w' => RRulA s.data.toList w e w' := by
  have HBAD := Aside0.mk hok
  clear hok
  go_enter Tryd.func32, Tryd.ntmps32
  go_wp2_with fail
  refine bodyPost_ret (v := .tuple #[.agg #[.bool false, .bool false, .bool false, .string ⟨#[]⟩], .bool false]) ?_ rfl ?_
  · rw [results_cell_tmp rfl]
    simp [asAddr, Result.andThen, loadVar, go_sem]
  · exact ⟨_, _, _, _, by rw [HBAD.out], fun h => absurd (HBAD.out.symm.trans h) (by decide), ((Below.refl _ _).alloc (Nat.le_refl _) _).alloc (by simp) _⟩

set_option maxHeartbeats 4000000 in
set_option maxRecDepth 4000 in
theorem rrule_big_yy (s : ByteArray) (w : World) (k : Nat) (hk : 60 ≤ k) (hbig : s.size ≤ 1000000000) (hz : s.size = k + 3) (e0 : (((s[0]'(by omega)).toNat : Int) == 33) = true) (hs1 : (s.extract 1 (k + 3)).size = k + 2) (e1 : ((((s.extract 1 (k + 3))[k + 1]'(by rw [hs1]; omega)).toNat : Int) == 47) = true) (hok : okR s.data.toList = false) :
    Calls Tryd.prog 32 #[.string s] w fun e w' => RRulA s.data.toList w e w' := by
  have HBAD := Aside0.mk hok
  clear hok
  go_enter Tryd.func32, Tryd.ntmps32
  go_wp2_with fail
  refine bodyPost_ret (v := .tuple #[.agg #[.bool false, .bool false, .bool false, .string ⟨#[]⟩], .bool false]) ?_ rfl ?_
  · rw [results_cell_tmp rfl]
    simp [asAddr, Result.andThen, loadVar, go_sem]
  · exact ⟨_, _, _, _, by rw [HBAD.out], fun h => absurd (HBAD.out.symm.trans h) (by decide), ((Below.refl _ _).alloc (Nat.le_refl _) _).alloc (by simp) _⟩

set_option maxHeartbeats 4000000 in
set_option maxRecDepth 4000 in
theorem rrule_big_yn (s : ByteArray) (w : World) (k : Nat) (hk : 60 ≤ k) (hbig : s.size ≤ 1000000000) (hz : s.size = k + 2) (e0 : (((s[0]'(by omega)).toNat : Int) == 33) = true) (hs1 : (s.extract 1 (k + 2)).size = k + 1) (e1 : ((((s.extract 1 (k + 2))[k]'(by rw [hs1]; omega)).toNat : Int) == 47) = false) (hok : okR s.data.toList = false) :
    Calls Tryd.prog 32 #[.string s] w fun e w' => RRulA s.data.toList w e w' := by
  have HBAD := Aside0.mk hok
  clear hok
  go_enter Tryd.func32, Tryd.ntmps32
  go_wp2_with fail
  refine bodyPost_ret (v := .tuple #[.agg #[.bool false, .bool false, .bool false, .string ⟨#[]⟩], .bool false]) ?_ rfl ?_
  · rw [results_cell_tmp rfl]
    simp [asAddr, Result.andThen, loadVar, go_sem]
  · exact ⟨_, _, _, _, by rw [HBAD.out], fun h => absurd (HBAD.out.symm.trans h) (by decide), ((Below.refl _ _).alloc (Nat.le_refl _) _).alloc (by simp) _⟩

set_option maxHeartbeats 4000000 in
set_option maxRecDepth 4000 in
theorem rrule_big_ny (s : ByteArray) (w : World) (k : Nat) (hk : 60 ≤ k) (hbig : s.size ≤ 1000000000) (hz : s.size = k + 2) (e0 : (((s[0]'(by omega)).toNat : Int) == 33) = false) (hs1 : s.size = k + 2) (e1 : (((s[k + 1]'(by rw [hs1]; omega)).toNat : Int) == 47) = true) (hok : okR s.data.toList = false) :
    Calls Tryd.prog 32 #[.string s] w fun e w' => RRulA s.data.toList w e w' := by
  have HBAD := Aside0.mk hok
  clear hok
  go_enter Tryd.func32, Tryd.ntmps32
  go_wp2_with fail
  refine bodyPost_ret (v := .tuple #[.agg #[.bool false, .bool false, .bool false, .string ⟨#[]⟩], .bool false]) ?_ rfl ?_
  · rw [results_cell_tmp rfl]
    simp [asAddr, Result.andThen, loadVar, go_sem]
  · exact ⟨_, _, _, _, by rw [HBAD.out], fun h => absurd (HBAD.out.symm.trans h) (by decide), ((Below.refl _ _).alloc (Nat.le_refl _) _).alloc (by simp) _⟩

set_option maxHeartbeats 4000000 in
set_option maxRecDepth 4000 in
theorem rrule_big_nn (s : ByteArray) (w : World) (k : Nat) (hk : 60 ≤ k) (hbig : s.size ≤ 1000000000) (hz : s.size = k + 1) (e0 : (((s[0]'(by omega)).toNat : Int) == 33) = false) (hs1 : s.size = k + 1) (e1 : (((s[k]'(by rw [hs1]; omega)).toNat : Int) == 47) = false) (hok : okR s.data.toList = false) :
    Calls Tryd.prog 32 #[.string s] w fun e w' => RRulA s.data.toList w e w' := by
  have HBAD := Aside0.mk hok
  clear hok
  go_enter Tryd.func32, Tryd.ntmps32
  go_wp2_with fail
  refine bodyPost_ret (v := .tuple #[.agg #[.bool false, .bool false, .bool false, .string ⟨#[]⟩], .bool false]) ?_ rfl ?_
  · rw [results_cell_tmp rfl]
    simp [asAddr, Result.andThen, loadVar, go_sem]
  · exact ⟨_, _, _, _, by rw [HBAD.out], fun h => absurd (HBAD.out.symm.trans h) (by decide), ((Below.refl _ _).alloc (Nat.le_refl _) _).alloc (by simp) _⟩

set_option maxHeartbeats 4000000 in
set_option maxRecDepth 4000 in
theorem rrule_yy (s : ByteArray) (w : World) (k : Nat) (hz : s.size = k + 3) (e0 : (((s[0]'(by omega)).toNat : Int) == 33) = true) (hs1 : (s.extract 1 (k + 3)).size = k + 2) (e1 : ((((s.extract 1 (k + 3))[k + 1]'(by rw [hs1]; omega)).toNat : Int) == 47) = true)
    (hT : ((s.extract 1 (k + 3)).extract 0 (k + 1)).data.toList = parT s.data.toList) (hn : parN s.data.toList = true) (hd : parD s.data.toList = true) (hb : k < 60) :
    Calls Tryd.prog 32 #[.string s] w fun e w' => RRulA s.data.toList w e w' := by
  have hTz : ((s.extract 1 (k + 3)).extract 0 (k + 1)).size = k + 1 := by rw [ByteArray.size_extract, hs1]; omega
  have hlen : (parT s.data.toList).length = k + 1 := by rw [← hT, len_data]; exact hTz
  have HTx : Aside0 (∀ (U : ByteArray), U = ((s.extract 1 (k + 3)).extract 0 (k + 1)) → U.size = k + 1 ∧ U.data.toList = parT s.data.toList) := ⟨fun U hU => by rw [hU]; exact ⟨hTz, hT⟩⟩
  have HND := Aside0.mk (And.intro hn hd)
  have HLN := Aside0.mk hlen
  have HOK : Aside0 (okR s.data.toList = !(parT s.data.toList).any wsB) := ⟨by unfold okR; rw [hlen, decide_eq_true (by omega), decide_eq_true (by omega)]; rfl⟩
  clear hn hd hT hTz hlen
  go_enter Tryd.func32, Tryd.ntmps32
  go_wp2_with fail
  obtain ⟨T, hTT⟩ : ∃ T, T = ((s.extract 1 (k + 3)).extract 0 (k + 1)) := ⟨_, rfl⟩
  rw [← hTT]
  obtain ⟨hTs, hTd⟩ := HTx.out T hTT
  have HTD := Aside0.mk hTd
  clear HTx hTT hTd e0 e1
  go_loopw [5] (fun i wr => ∃ j : Nat, j ≤ k + 1 ∧ i = .int .i64 j ∧ wr = ((w.alloc (.cells #[.bool false, .bool false, .bool false, .string ⟨#[]⟩] 64)).alloc (.cells #[.bool true, .bool true, .bool (deepN (parT s.data.toList) j), .string ⟨#[]⟩] 64)) ∧ Aside0 (NoWs (parT s.data.toList) j)) (fun i wr => k + 1 - (intOf i).toNat)
  case atStart => exact ⟨0, Nat.zero_le _, rfl, rfl, ⟨fun j hj => absurd hj (Nat.not_lt_zero _)⟩⟩
  case round =>
    obtain ⟨j, hj, rfl, rfl, hno⟩ := hrel
    by_cases hlt : j < k + 1
    · have hjT : j < T.size := by omega
      obtain ⟨x, hx⟩ : ∃ x : UInt8, T[j]'hjT = x := ⟨_, rfl⟩
      have HX : Aside0 ((parT s.data.toList).getD j 0 = x) := ⟨by rw [← HTD.out, getD_str T j hjT]; exact hx⟩
      have hne : ∀ c : UInt8, (((x.toNat : Int) == (c.toNat : Int)) = (x == c)) := fun c => by
        rw [Bool.eq_iff_iff, beq_iff_eq, beq_iff_eq]
        exact ⟨fun h => UInt8.toNat_inj.1 (by omega), fun h => by rw [h]⟩
      have n32 : ((x.toNat : Int) == 32) = (x == 32) := hne 32
      have n10 : ((x.toNat : Int) == 10) = (x == 10) := hne 10
      have n47 : ((x.toNat : Int) == 47) = (x == 47) := hne 47
      have HWS : Aside0 (wsB x = (((x.toNat : Int) == 32) || ((x.toNat : Int) == 10))) := ⟨by rw [n32, n10]; rfl⟩
      have HDP : Aside0 (deepN (parT s.data.toList) (j + 1) = (deepN (parT s.data.toList) j || ((x.toNat : Int) == 47))) := ⟨by rw [deepN_succ (by rw [HLN.out]; exact hlt), HX.out, n47]⟩
      clear hne n32 n10 n47
      have hbad : wsB x = true → okR s.data.toList = false := fun h => by rw [HOK.out, ws_hit (by rw [HLN.out]; exact hlt) (by rw [HX.out]; exact h)]; rfl
      cases h32 : ((x.toNat : Int) == 32) with
      | true =>
        have HBAD : Aside0 (okR s.data.toList = false) := ⟨hbad (by rw [HWS.out, h32]; rfl)⟩
        clear hbad
        go_wp2_with fail
        refine bodyPost_ret (v := .tuple #[.agg #[.bool false, .bool false, .bool false, .string ⟨#[]⟩], .bool false]) ?_ rfl ?_
        · rw [results_cell_tmp rfl]
          simp [asAddr, Result.andThen, loadVar, go_sem]
        · exact ⟨_, _, _, _, by rw [HBAD.out], fun h => absurd (HBAD.out.symm.trans h) (by decide), ((Below.refl _ _).alloc (Nat.le_refl _) _).alloc (by simp) _⟩
      | false =>
        cases h10 : ((x.toNat : Int) == 10) with
        | true =>
          have HBAD : Aside0 (okR s.data.toList = false) := ⟨hbad (by rw [HWS.out, h10, Bool.or_true])⟩
          clear hbad
          go_wp2_with fail
          refine bodyPost_ret (v := .tuple #[.agg #[.bool false, .bool false, .bool false, .string ⟨#[]⟩], .bool false]) ?_ rfl ?_
          · rw [results_cell_tmp rfl]
            simp [asAddr, Result.andThen, loadVar, go_sem]
          · exact ⟨_, _, _, _, by rw [HBAD.out], fun h => absurd (HBAD.out.symm.trans h) (by decide), ((Below.refl _ _).alloc (Nat.le_refl _) _).alloc (by simp) _⟩
        | false =>
          have HNX : Aside0 (wsB x = false) := ⟨by rw [HWS.out, h32, h10]; rfl⟩
          clear hbad
          obtain ⟨b, hb⟩ : ∃ b, b = deepN (parT s.data.toList) j := ⟨_, rfl⟩
          obtain ⟨y, hy⟩ : ∃ y, ((x.toNat : Int) == 47) = y := ⟨_, rfl⟩
          rw [← hb, hy] at HDP
          rw [← hb]
          clear hb
          cases b
          all_goals
            go_wp2_with fail
            go_roundw
            case rel => exact ⟨j + 1, by omega, by go_num, by rw [HDP.out]; simp, ⟨fun i hi => by
              rcases Nat.lt_or_ge i j with h | h
              · exact hno.out i h
              · have : i = j := by omega
                subst this
                rw [HX.out]; exact HNX.out⟩⟩
            case measure => simp [intOf]; omega
    · have hjk : j = k + 1 := by omega
      have HN : Aside0 (okR s.data.toList = true) := ⟨by rw [HOK.out, noWs_all (by rw [HLN.out, ← hjk]; exact hno.out)]; rfl⟩
      have HDW : Aside0 (deepN (parT s.data.toList) j = parW s.data.toList) := ⟨by unfold deepN parW; rw [List.take_of_length_le (by rw [HLN.out]; omega), index_slash]⟩
      go_wp2_with fail
      refine bodyPost_ret (v := .tuple #[.agg #[.bool true, .bool true, .bool (deepN (parT s.data.toList) j), .string T], .bool true]) ?_ rfl ?_
      · rw [results_cell_tmp rfl]
        simp [asAddr, Result.andThen, loadVar, go_sem, hjk]
      · exact ⟨_, _, _, _, by rw [HN.out], fun _ => ⟨HTD.out, HND.out.1.symm, HND.out.2.symm, HDW.out⟩, ((Below.refl _ _).alloc (Nat.le_refl _) _).alloc (by simp) _⟩

set_option maxHeartbeats 4000000 in
set_option maxRecDepth 4000 in
theorem rrule_yn (s : ByteArray) (w : World) (k : Nat) (hz : s.size = k + 2) (e0 : (((s[0]'(by omega)).toNat : Int) == 33) = true) (hs1 : (s.extract 1 (k + 2)).size = k + 1) (e1 : ((((s.extract 1 (k + 2))[k]'(by rw [hs1]; omega)).toNat : Int) == 47) = false)
    (hT : (s.extract 1 (k + 2)).data.toList = parT s.data.toList) (hn : parN s.data.toList = true) (hd : parD s.data.toList = false) (hb : k < 60) :
    Calls Tryd.prog 32 #[.string s] w fun e w' => RRulA s.data.toList w e w' := by
  have hTz : (s.extract 1 (k + 2)).size = k + 1 := by exact hs1
  have hlen : (parT s.data.toList).length = k + 1 := by rw [← hT, len_data]; exact hTz
  have HTx : Aside0 (∀ (U : ByteArray), U = (s.extract 1 (k + 2)) → U.size = k + 1 ∧ U.data.toList = parT s.data.toList) := ⟨fun U hU => by rw [hU]; exact ⟨hTz, hT⟩⟩
  have HND := Aside0.mk (And.intro hn hd)
  have HLN := Aside0.mk hlen
  have HOK : Aside0 (okR s.data.toList = !(parT s.data.toList).any wsB) := ⟨by unfold okR; rw [hlen, decide_eq_true (by omega), decide_eq_true (by omega)]; rfl⟩
  clear hn hd hT hTz hlen
  go_enter Tryd.func32, Tryd.ntmps32
  go_wp2_with fail
  obtain ⟨hTs, hTd⟩ := HTx.out (s.extract 1 (k + 2)) rfl
  have HTD := Aside0.mk hTd
  clear HTx hTd
  go_loopw [5] (fun i wr => ∃ j : Nat, j ≤ k + 1 ∧ i = .int .i64 j ∧ wr = ((w.alloc (.cells #[.bool false, .bool false, .bool false, .string ⟨#[]⟩] 64)).alloc (.cells #[.bool true, .bool false, .bool (deepN (parT s.data.toList) j), .string ⟨#[]⟩] 64)) ∧ Aside0 (NoWs (parT s.data.toList) j)) (fun i wr => k + 1 - (intOf i).toNat)
  case atStart => exact ⟨0, Nat.zero_le _, rfl, rfl, ⟨fun j hj => absurd hj (Nat.not_lt_zero _)⟩⟩
  case round =>
    obtain ⟨j, hj, rfl, rfl, hno⟩ := hrel
    by_cases hlt : j < k + 1
    · have hjT : j < (s.extract 1 (k + 2)).size := by omega
      obtain ⟨x, hx⟩ : ∃ x : UInt8, (s.extract 1 (k + 2))[j]'hjT = x := ⟨_, rfl⟩
      have HX : Aside0 ((parT s.data.toList).getD j 0 = x) := ⟨by rw [← HTD.out, getD_str (s.extract 1 (k + 2)) j hjT]; exact hx⟩
      have hne : ∀ c : UInt8, (((x.toNat : Int) == (c.toNat : Int)) = (x == c)) := fun c => by
        rw [Bool.eq_iff_iff, beq_iff_eq, beq_iff_eq]
        exact ⟨fun h => UInt8.toNat_inj.1 (by omega), fun h => by rw [h]⟩
      have n32 : ((x.toNat : Int) == 32) = (x == 32) := hne 32
      have n10 : ((x.toNat : Int) == 10) = (x == 10) := hne 10
      have n47 : ((x.toNat : Int) == 47) = (x == 47) := hne 47
      have HWS : Aside0 (wsB x = (((x.toNat : Int) == 32) || ((x.toNat : Int) == 10))) := ⟨by rw [n32, n10]; rfl⟩
      have HDP : Aside0 (deepN (parT s.data.toList) (j + 1) = (deepN (parT s.data.toList) j || ((x.toNat : Int) == 47))) := ⟨by rw [deepN_succ (by rw [HLN.out]; exact hlt), HX.out, n47]⟩
      clear hne n32 n10 n47
      have hbad : wsB x = true → okR s.data.toList = false := fun h => by rw [HOK.out, ws_hit (by rw [HLN.out]; exact hlt) (by rw [HX.out]; exact h)]; rfl
      cases h32 : ((x.toNat : Int) == 32) with
      | true =>
        have HBAD : Aside0 (okR s.data.toList = false) := ⟨hbad (by rw [HWS.out, h32]; rfl)⟩
        clear hbad
        go_wp2_with fail
        refine bodyPost_ret (v := .tuple #[.agg #[.bool false, .bool false, .bool false, .string ⟨#[]⟩], .bool false]) ?_ rfl ?_
        · rw [results_cell_tmp rfl]
          simp [asAddr, Result.andThen, loadVar, go_sem]
        · exact ⟨_, _, _, _, by rw [HBAD.out], fun h => absurd (HBAD.out.symm.trans h) (by decide), ((Below.refl _ _).alloc (Nat.le_refl _) _).alloc (by simp) _⟩
      | false =>
        cases h10 : ((x.toNat : Int) == 10) with
        | true =>
          have HBAD : Aside0 (okR s.data.toList = false) := ⟨hbad (by rw [HWS.out, h10, Bool.or_true])⟩
          clear hbad
          go_wp2_with fail
          refine bodyPost_ret (v := .tuple #[.agg #[.bool false, .bool false, .bool false, .string ⟨#[]⟩], .bool false]) ?_ rfl ?_
          · rw [results_cell_tmp rfl]
            simp [asAddr, Result.andThen, loadVar, go_sem]
          · exact ⟨_, _, _, _, by rw [HBAD.out], fun h => absurd (HBAD.out.symm.trans h) (by decide), ((Below.refl _ _).alloc (Nat.le_refl _) _).alloc (by simp) _⟩
        | false =>
          have HNX : Aside0 (wsB x = false) := ⟨by rw [HWS.out, h32, h10]; rfl⟩
          clear hbad
          obtain ⟨b, hb⟩ : ∃ b, b = deepN (parT s.data.toList) j := ⟨_, rfl⟩
          obtain ⟨y, hy⟩ : ∃ y, ((x.toNat : Int) == 47) = y := ⟨_, rfl⟩
          rw [← hb, hy] at HDP
          rw [← hb]
          clear hb
          cases b
          all_goals
            go_wp2_with fail
            go_roundw
            case rel => exact ⟨j + 1, by omega, by go_num, by rw [HDP.out]; simp, ⟨fun i hi => by
              rcases Nat.lt_or_ge i j with h | h
              · exact hno.out i h
              · have : i = j := by omega
                subst this
                rw [HX.out]; exact HNX.out⟩⟩
            case measure => simp [intOf]; omega
    · have hjk : j = k + 1 := by omega
      have HN : Aside0 (okR s.data.toList = true) := ⟨by rw [HOK.out, noWs_all (by rw [HLN.out, ← hjk]; exact hno.out)]; rfl⟩
      have HDW : Aside0 (deepN (parT s.data.toList) j = parW s.data.toList) := ⟨by unfold deepN parW; rw [List.take_of_length_le (by rw [HLN.out]; omega), index_slash]⟩
      go_wp2_with fail
      refine bodyPost_ret (v := .tuple #[.agg #[.bool true, .bool false, .bool (deepN (parT s.data.toList) j), .string (s.extract 1 (k + 2))], .bool true]) ?_ rfl ?_
      · rw [results_cell_tmp rfl]
        simp [asAddr, Result.andThen, loadVar, go_sem, hjk]
      · exact ⟨_, _, _, _, by rw [HN.out], fun _ => ⟨HTD.out, HND.out.1.symm, HND.out.2.symm, HDW.out⟩, ((Below.refl _ _).alloc (Nat.le_refl _) _).alloc (by simp) _⟩

set_option maxHeartbeats 4000000 in
set_option maxRecDepth 4000 in
theorem rrule_ny (s : ByteArray) (w : World) (k : Nat) (hz : s.size = k + 2) (e0 : (((s[0]'(by omega)).toNat : Int) == 33) = false) (hs1 : s.size = k + 2) (e1 : (((s[k + 1]'(by rw [hs1]; omega)).toNat : Int) == 47) = true)
    (hT : (s.extract 0 (k + 1)).data.toList = parT s.data.toList) (hn : parN s.data.toList = false) (hd : parD s.data.toList = true) (hb : k < 60) :
    Calls Tryd.prog 32 #[.string s] w fun e w' => RRulA s.data.toList w e w' := by
  have hTz : (s.extract 0 (k + 1)).size = k + 1 := by rw [ByteArray.size_extract, hs1]; omega
  have hlen : (parT s.data.toList).length = k + 1 := by rw [← hT, len_data]; exact hTz
  have HTx : Aside0 (∀ (U : ByteArray), U = (s.extract 0 (k + 1)) → U.size = k + 1 ∧ U.data.toList = parT s.data.toList) := ⟨fun U hU => by rw [hU]; exact ⟨hTz, hT⟩⟩
  have HND := Aside0.mk (And.intro hn hd)
  have HLN := Aside0.mk hlen
  have HOK : Aside0 (okR s.data.toList = !(parT s.data.toList).any wsB) := ⟨by unfold okR; rw [hlen, decide_eq_true (by omega), decide_eq_true (by omega)]; rfl⟩
  clear hn hd hT hTz hlen
  go_enter Tryd.func32, Tryd.ntmps32
  go_wp2_with fail
  obtain ⟨T, hTT⟩ : ∃ T, T = (s.extract 0 (k + 1)) := ⟨_, rfl⟩
  rw [← hTT]
  obtain ⟨hTs, hTd⟩ := HTx.out T hTT
  have HTD := Aside0.mk hTd
  clear HTx hTT hTd e0 e1
  go_loopw [5] (fun i wr => ∃ j : Nat, j ≤ k + 1 ∧ i = .int .i64 j ∧ wr = ((w.alloc (.cells #[.bool false, .bool false, .bool false, .string ⟨#[]⟩] 64)).alloc (.cells #[.bool false, .bool true, .bool (deepN (parT s.data.toList) j), .string ⟨#[]⟩] 64)) ∧ Aside0 (NoWs (parT s.data.toList) j)) (fun i wr => k + 1 - (intOf i).toNat)
  case atStart => exact ⟨0, Nat.zero_le _, rfl, rfl, ⟨fun j hj => absurd hj (Nat.not_lt_zero _)⟩⟩
  case round =>
    obtain ⟨j, hj, rfl, rfl, hno⟩ := hrel
    by_cases hlt : j < k + 1
    · have hjT : j < T.size := by omega
      obtain ⟨x, hx⟩ : ∃ x : UInt8, T[j]'hjT = x := ⟨_, rfl⟩
      have HX : Aside0 ((parT s.data.toList).getD j 0 = x) := ⟨by rw [← HTD.out, getD_str T j hjT]; exact hx⟩
      have hne : ∀ c : UInt8, (((x.toNat : Int) == (c.toNat : Int)) = (x == c)) := fun c => by
        rw [Bool.eq_iff_iff, beq_iff_eq, beq_iff_eq]
        exact ⟨fun h => UInt8.toNat_inj.1 (by omega), fun h => by rw [h]⟩
      have n32 : ((x.toNat : Int) == 32) = (x == 32) := hne 32
      have n10 : ((x.toNat : Int) == 10) = (x == 10) := hne 10
      have n47 : ((x.toNat : Int) == 47) = (x == 47) := hne 47
      have HWS : Aside0 (wsB x = (((x.toNat : Int) == 32) || ((x.toNat : Int) == 10))) := ⟨by rw [n32, n10]; rfl⟩
      have HDP : Aside0 (deepN (parT s.data.toList) (j + 1) = (deepN (parT s.data.toList) j || ((x.toNat : Int) == 47))) := ⟨by rw [deepN_succ (by rw [HLN.out]; exact hlt), HX.out, n47]⟩
      clear hne n32 n10 n47
      have hbad : wsB x = true → okR s.data.toList = false := fun h => by rw [HOK.out, ws_hit (by rw [HLN.out]; exact hlt) (by rw [HX.out]; exact h)]; rfl
      cases h32 : ((x.toNat : Int) == 32) with
      | true =>
        have HBAD : Aside0 (okR s.data.toList = false) := ⟨hbad (by rw [HWS.out, h32]; rfl)⟩
        clear hbad
        go_wp2_with fail
        refine bodyPost_ret (v := .tuple #[.agg #[.bool false, .bool false, .bool false, .string ⟨#[]⟩], .bool false]) ?_ rfl ?_
        · rw [results_cell_tmp rfl]
          simp [asAddr, Result.andThen, loadVar, go_sem]
        · exact ⟨_, _, _, _, by rw [HBAD.out], fun h => absurd (HBAD.out.symm.trans h) (by decide), ((Below.refl _ _).alloc (Nat.le_refl _) _).alloc (by simp) _⟩
      | false =>
        cases h10 : ((x.toNat : Int) == 10) with
        | true =>
          have HBAD : Aside0 (okR s.data.toList = false) := ⟨hbad (by rw [HWS.out, h10, Bool.or_true])⟩
          clear hbad
          go_wp2_with fail
          refine bodyPost_ret (v := .tuple #[.agg #[.bool false, .bool false, .bool false, .string ⟨#[]⟩], .bool false]) ?_ rfl ?_
          · rw [results_cell_tmp rfl]
            simp [asAddr, Result.andThen, loadVar, go_sem]
          · exact ⟨_, _, _, _, by rw [HBAD.out], fun h => absurd (HBAD.out.symm.trans h) (by decide), ((Below.refl _ _).alloc (Nat.le_refl _) _).alloc (by simp) _⟩
        | false =>
          have HNX : Aside0 (wsB x = false) := ⟨by rw [HWS.out, h32, h10]; rfl⟩
          clear hbad
          obtain ⟨b, hb⟩ : ∃ b, b = deepN (parT s.data.toList) j := ⟨_, rfl⟩
          obtain ⟨y, hy⟩ : ∃ y, ((x.toNat : Int) == 47) = y := ⟨_, rfl⟩
          rw [← hb, hy] at HDP
          rw [← hb]
          clear hb
          cases b
          all_goals
            go_wp2_with fail
            go_roundw
            case rel => exact ⟨j + 1, by omega, by go_num, by rw [HDP.out]; simp, ⟨fun i hi => by
              rcases Nat.lt_or_ge i j with h | h
              · exact hno.out i h
              · have : i = j := by omega
                subst this
                rw [HX.out]; exact HNX.out⟩⟩
            case measure => simp [intOf]; omega
    · have hjk : j = k + 1 := by omega
      have HN : Aside0 (okR s.data.toList = true) := ⟨by rw [HOK.out, noWs_all (by rw [HLN.out, ← hjk]; exact hno.out)]; rfl⟩
      have HDW : Aside0 (deepN (parT s.data.toList) j = parW s.data.toList) := ⟨by unfold deepN parW; rw [List.take_of_length_le (by rw [HLN.out]; omega), index_slash]⟩
      go_wp2_with fail
      refine bodyPost_ret (v := .tuple #[.agg #[.bool false, .bool true, .bool (deepN (parT s.data.toList) j), .string T], .bool true]) ?_ rfl ?_
      · rw [results_cell_tmp rfl]
        simp [asAddr, Result.andThen, loadVar, go_sem, hjk]
      · exact ⟨_, _, _, _, by rw [HN.out], fun _ => ⟨HTD.out, HND.out.1.symm, HND.out.2.symm, HDW.out⟩, ((Below.refl _ _).alloc (Nat.le_refl _) _).alloc (by simp) _⟩

set_option maxHeartbeats 4000000 in
set_option maxRecDepth 4000 in
theorem rrule_nn (s : ByteArray) (w : World) (k : Nat) (hz : s.size = k + 1) (e0 : (((s[0]'(by omega)).toNat : Int) == 33) = false) (hs1 : s.size = k + 1) (e1 : (((s[k]'(by rw [hs1]; omega)).toNat : Int) == 47) = false)
    (hT : s.data.toList = parT s.data.toList) (hn : parN s.data.toList = false) (hd : parD s.data.toList = false) (hb : k < 60) :
    Calls Tryd.prog 32 #[.string s] w fun e w' => RRulA s.data.toList w e w' := by
  have hTz : s.size = k + 1 := by exact hs1
  have hlen : (parT s.data.toList).length = k + 1 := by rw [← hT, len_data]; exact hTz
  have HTx : Aside0 (∀ (U : ByteArray), U = s → U.size = k + 1 ∧ U.data.toList = parT s.data.toList) := ⟨fun U hU => by rw [hU]; exact ⟨hTz, hT⟩⟩
  have HND := Aside0.mk (And.intro hn hd)
  have HLN := Aside0.mk hlen
  have HOK : Aside0 (okR s.data.toList = !(parT s.data.toList).any wsB) := ⟨by unfold okR; rw [hlen, decide_eq_true (by omega), decide_eq_true (by omega)]; rfl⟩
  clear hn hd hT hTz hlen
  go_enter Tryd.func32, Tryd.ntmps32
  go_wp2_with fail
  obtain ⟨hTs, hTd⟩ := HTx.out s rfl
  have HTD := Aside0.mk hTd
  clear HTx hTd
  go_loopw [5] (fun i wr => ∃ j : Nat, j ≤ k + 1 ∧ i = .int .i64 j ∧ wr = ((w.alloc (.cells #[.bool false, .bool false, .bool false, .string ⟨#[]⟩] 64)).alloc (.cells #[.bool false, .bool false, .bool (deepN (parT s.data.toList) j), .string ⟨#[]⟩] 64)) ∧ Aside0 (NoWs (parT s.data.toList) j)) (fun i wr => k + 1 - (intOf i).toNat)
  case atStart => exact ⟨0, Nat.zero_le _, rfl, rfl, ⟨fun j hj => absurd hj (Nat.not_lt_zero _)⟩⟩
  case round =>
    obtain ⟨j, hj, rfl, rfl, hno⟩ := hrel
    by_cases hlt : j < k + 1
    · have hjT : j < s.size := by omega
      obtain ⟨x, hx⟩ : ∃ x : UInt8, s[j]'hjT = x := ⟨_, rfl⟩
      have HX : Aside0 ((parT s.data.toList).getD j 0 = x) := ⟨by rw [← HTD.out, getD_str s j hjT]; exact hx⟩
      have hne : ∀ c : UInt8, (((x.toNat : Int) == (c.toNat : Int)) = (x == c)) := fun c => by
        rw [Bool.eq_iff_iff, beq_iff_eq, beq_iff_eq]
        exact ⟨fun h => UInt8.toNat_inj.1 (by omega), fun h => by rw [h]⟩
      have n32 : ((x.toNat : Int) == 32) = (x == 32) := hne 32
      have n10 : ((x.toNat : Int) == 10) = (x == 10) := hne 10
      have n47 : ((x.toNat : Int) == 47) = (x == 47) := hne 47
      have HWS : Aside0 (wsB x = (((x.toNat : Int) == 32) || ((x.toNat : Int) == 10))) := ⟨by rw [n32, n10]; rfl⟩
      have HDP : Aside0 (deepN (parT s.data.toList) (j + 1) = (deepN (parT s.data.toList) j || ((x.toNat : Int) == 47))) := ⟨by rw [deepN_succ (by rw [HLN.out]; exact hlt), HX.out, n47]⟩
      clear hne n32 n10 n47
      have hbad : wsB x = true → okR s.data.toList = false := fun h => by rw [HOK.out, ws_hit (by rw [HLN.out]; exact hlt) (by rw [HX.out]; exact h)]; rfl
      cases h32 : ((x.toNat : Int) == 32) with
      | true =>
        have HBAD : Aside0 (okR s.data.toList = false) := ⟨hbad (by rw [HWS.out, h32]; rfl)⟩
        clear hbad
        go_wp2_with fail
        refine bodyPost_ret (v := .tuple #[.agg #[.bool false, .bool false, .bool false, .string ⟨#[]⟩], .bool false]) ?_ rfl ?_
        · rw [results_cell_tmp rfl]
          simp [asAddr, Result.andThen, loadVar, go_sem]
        · exact ⟨_, _, _, _, by rw [HBAD.out], fun h => absurd (HBAD.out.symm.trans h) (by decide), ((Below.refl _ _).alloc (Nat.le_refl _) _).alloc (by simp) _⟩
      | false =>
        cases h10 : ((x.toNat : Int) == 10) with
        | true =>
          have HBAD : Aside0 (okR s.data.toList = false) := ⟨hbad (by rw [HWS.out, h10, Bool.or_true])⟩
          clear hbad
          go_wp2_with fail
          refine bodyPost_ret (v := .tuple #[.agg #[.bool false, .bool false, .bool false, .string ⟨#[]⟩], .bool false]) ?_ rfl ?_
          · rw [results_cell_tmp rfl]
            simp [asAddr, Result.andThen, loadVar, go_sem]
          · exact ⟨_, _, _, _, by rw [HBAD.out], fun h => absurd (HBAD.out.symm.trans h) (by decide), ((Below.refl _ _).alloc (Nat.le_refl _) _).alloc (by simp) _⟩
        | false =>
          have HNX : Aside0 (wsB x = false) := ⟨by rw [HWS.out, h32, h10]; rfl⟩
          clear hbad
          obtain ⟨b, hb⟩ : ∃ b, b = deepN (parT s.data.toList) j := ⟨_, rfl⟩
          obtain ⟨y, hy⟩ : ∃ y, ((x.toNat : Int) == 47) = y := ⟨_, rfl⟩
          rw [← hb, hy] at HDP
          rw [← hb]
          clear hb
          cases b
          all_goals
            go_wp2_with fail
            go_roundw
            case rel => exact ⟨j + 1, by omega, by go_num, by rw [HDP.out]; simp, ⟨fun i hi => by
              rcases Nat.lt_or_ge i j with h | h
              · exact hno.out i h
              · have : i = j := by omega
                subst this
                rw [HX.out]; exact HNX.out⟩⟩
            case measure => simp [intOf]; omega
    · have hjk : j = k + 1 := by omega
      have HN : Aside0 (okR s.data.toList = true) := ⟨by rw [HOK.out, noWs_all (by rw [HLN.out, ← hjk]; exact hno.out)]; rfl⟩
      have HDW : Aside0 (deepN (parT s.data.toList) j = parW s.data.toList) := ⟨by unfold deepN parW; rw [List.take_of_length_le (by rw [HLN.out]; omega), index_slash]⟩
      go_wp2_with fail
      refine bodyPost_ret (v := .tuple #[.agg #[.bool false, .bool false, .bool (deepN (parT s.data.toList) j), .string s], .bool true]) ?_ rfl ?_
      · rw [results_cell_tmp rfl]
        simp [asAddr, Result.andThen, loadVar, go_sem, hjk]
      · exact ⟨_, _, _, _, by rw [HN.out], fun _ => ⟨HTD.out, HND.out.1.symm, HND.out.2.symm, HDW.out⟩, ((Below.refl _ _).alloc (Nat.le_refl _) _).alloc (by simp) _⟩
end Go.Proofs.YtkalfkgnjmkjgaaDoor
