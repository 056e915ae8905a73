/-
  Whether a path is ignored by rules; the lines of rules. No condition but lengths.
-/
import Derived.Test.YtkalfkgnjmkjgaaDoorIgnOwn
import Derived.Test.YtkalfkgnjmkjgaaDoorPathFns
import Derived.Test.YtkalfkgnjmkjgaaDoorPathLaws
namespace Go.Proofs.YtkalfkgnjmkjgaaDoor
open Go.RowKit
set_option linter.unusedVariables false
set_option linter.unusedSimpArgs false

theorem par_lt {q : List UInt8} (h : validB q = true) : (parentL q).length < q.length := by
  have hne := splitP_ne q
  have hj := join_split q
  have hq := valid_ne h
  unfold parentL
  rw [if_pos h]
  obtain ⟨l, x, hl⟩ : ∃ l x, splitP q = l ++ [x] := ⟨_, _, (List.dropLast_concat_getLast hne).symm⟩
  rw [hl, List.dropLast_concat]
  by_cases h0 : l = []
  · subst h0
    show 0 < q.length
    exact List.length_pos_iff.2 hq
  · rw [hl, joinP_app l [x] h0 (by simp)] at hj
    rw [← hj, List.length_append, List.length_cons]
    omega
theorem par_valid {q : List UInt8} (h : validB q = true) (h2 : parentL q ≠ []) : validB (parentL q) = true := by
  have h3 : parentL q = joinP ((splitP q).take ((splitP q).length - 1)) := by unfold parentL; rw [if_pos h, List.dropLast_eq_take]
  rw [h3] at h2 ⊢
  refine (valid_take h _ ?_).1
  rcases Nat.eq_zero_or_pos ((splitP q).length - 1) with h0 | h0
  · rw [h0] at h2; exact absurd rfl h2
  · exact h0

def igN (R : List Rl) : Nat → List UInt8 → Bool → Bool
  | 0, _, _ => false
  | n + 1, q, d => if q = [] then false else ownL R q d || igN R n (parentL q) true
def ignL (R : List Rl) (p : List UInt8) (d : Bool) : Bool := validB p && igN R p.length p d
theorem igN_nil (R : List Rl) (n : Nat) (d : Bool) : igN R n [] d = false := by cases n <;> rfl
theorem igN_len (R : List Rl) : ∀ n q d, q.length ≤ n → (q = [] ∨ validB q = true) → igN R n q d = igN R q.length q d := by
  intro n
  induction n using Nat.strongRecOn with
  | ind n ih =>
    intro q d hq hv
    rcases hv with rfl | hv
    · rw [igN_nil, igN_nil]
    · have hne := valid_ne hv
      have hlt := par_lt hv
      have hpv : parentL q = [] ∨ validB (parentL q) = true := by
        by_cases h : parentL q = []
        · exact .inl h
        · exact .inr (par_valid hv h)
      obtain ⟨k, hk⟩ : ∃ k, q.length = k + 1 := ⟨q.length - 1, by omega⟩
      obtain ⟨m, rfl⟩ : ∃ m, n = m + 1 := ⟨n - 1, by omega⟩
      rw [hk, igN, igN, if_neg hne, if_neg hne, ih m (by omega) _ true (by omega) hpv, ih k (by omega) _ true (by omega) hpv]
theorem igN_step (R : List Rl) {q : List UInt8} (d : Bool) (hv : validB q = true) : igN R q.length q d = (ownL R q d || igN R (parentL q).length (parentL q) true) := by
  have hlt := par_lt hv
  obtain ⟨k, hk⟩ : ∃ k, q.length = k + 1 := ⟨q.length - 1, by omega⟩
  rw [hk, igN, if_neg (valid_ne hv)]
  congr 1
  refine igN_len R k _ true (by omega) ?_
  by_cases h : parentL q = []
  · exact .inl h
  · exact .inr (par_valid hv h)

def strSz : Value → Nat
  | .string s => s.size
  | _ => 0
/-- What stands at the loop's head. -/
def IgI (R : List Rl) (p q : List UInt8) (dir : Bool) : Prop := (q = [] ∨ validB q = true) ∧ q.length ≤ p.length ∧ ignL R p dir = igN R q.length q (dir || q != p)
theorem IgI.next {R : List Rl} {p q : List UInt8} {dir : Bool} (h : IgI R p q dir) (hq : validB q = true) (ho : ownL R q (dir || q != p) = false) : IgI R p (parentL q) dir := by
  have hlt := par_lt hq
  obtain ⟨_, h1, h2⟩ := h
  refine ⟨?_, by omega, ?_⟩
  · by_cases h : parentL q = []
    · exact .inl h
    · exact .inr (par_valid hq h)
  · rw [h2, igN_step R _ hq, ho, Bool.false_or]
    have hne : (parentL q != p) = true := by
      rw [bne_iff_ne]; intro he; rw [he] at hlt; omega
    rw [hne, Bool.or_true]

set_option maxRecDepth 4000 in
set_option maxHeartbeats 4000000 in
theorem ignored_calls {g base : Nat} {L : List (List UInt8)} {R : List Rl} (p : ByteArray) (dir : Bool) (w : World) (h : IsR w g base L R) (hp : p.size ≤ 1000000000) (hR : R.length ≤ 1000000000) :
    Calls Tryd.prog 14 #[.pointer (some ⟨g, 0, none⟩), .string p, .bool dir] w fun e w' => e = .returned (.bool (ignL R p.data.toList dir)) ∧ Below w.heap.size w w' := by
  have H := Aside0.mk h
  clear h
  obtain ⟨b, hb⟩ : ∃ b, validB p.data.toList = b := ⟨_, rfl⟩
  have HVB := Aside0.mk hb
  cases b with
  | false =>
    have HE : Aside0 (ignL R p.data.toList dir = false) := ⟨by unfold ignL; rw [hb]; rfl⟩
    rw [HE.out]
    clear hb
    go_enter Tryd.func14, Tryd.ntmps14
    go_wp2_with (go_at_call 29; refine (valid_calls p _ hp).mono ?_; rintro e w1 ⟨rfl, hb1⟩; rw [HVB.out]; have HB1 := Aside0.mk hb1; clear hb1)
    go_ret
    exact ⟨rfl, HB1.out⟩
  | true =>
    have HI : Aside0 (IgI R p.data.toList p.data.toList dir) := ⟨.inr hb, Nat.le_refl _, by unfold ignL; rw [hb, bne_self_eq_false, Bool.or_false, Bool.true_and]⟩
    obtain ⟨r, hr⟩ : ∃ r, r = ignL R p.data.toList dir := ⟨_, rfl⟩
    rw [← hr]
    have HRR := Aside0.mk hr
    clear hb hr
    go_enter Tryd.func14, Tryd.ntmps14
    go_wp2_with (go_at_call 29; refine (valid_calls p _ hp).mono ?_; rintro e w1 ⟨rfl, hb1⟩; rw [HVB.out]; have HB1 := Aside0.mk hb1; clear hb1)
    go_loopw [7] (fun v wr => ∃ s : ByteArray, v = .string s ∧ s.size ≤ p.size ∧ Aside0 (IgI R p.data.toList s.data.toList dir ∧ Below w.heap.size w wr)) (fun v wr => strSz v)
    case atStart => exact ⟨p, rfl, Nat.le_refl _, ⟨HI.out, HB1.out⟩⟩
    case round =>
      obtain ⟨s, rfl, hsz, hs⟩ := hrel
      have HS := Aside0.mk hs.out.1
      have HB := Aside0.mk hs.out.2
      clear hs
      by_cases hn : s.data.toList = []
      · have hn2 : s.toList = [] := by rw [toList_eq]; exact hn
        have d1 : s.toList.isEmpty = true := by rw [hn2]; rfl
        have HE : Aside0 (r = false) := ⟨by rw [HRR.out, HS.out.2.2, hn, igN_nil]⟩
        clear hn hn2
        go_wp2_with fail
        go_ret
        exact ⟨by rw [HE.out]; rfl, HB.out⟩
      · have hn2 : s.toList ≠ [] := by rw [toList_eq]; exact hn
        have d1 : s.toList.isEmpty = false := by rw [List.isEmpty_eq_false_iff]; exact hn2
        have hv : validB s.data.toList = true := HS.out.1.resolve_left hn
        have HV := Aside0.mk hv
        have HI2 : Aside0 (IsR wr g base L R) := ⟨H.out.below HB.out⟩
        obtain ⟨pb, hpb⟩ : ∃ b, parentL s.data.toList = b := ⟨_, rfl⟩
        have HP := Aside0.mk hpb
        have HLT := Aside0.mk (par_lt hv)
        have HSZ := Aside0.mk (len_data s)
        obtain ⟨ne, hne⟩ : ∃ ne, (s.toList == p.toList) = ne := ⟨_, rfl⟩
        have HNE : Aside0 ((s.data.toList != p.data.toList) = !ne) := ⟨by rw [← toList_eq, ← toList_eq, bne, hne]⟩
        clear hn hn2 hv hpb
        obtain ⟨o, ho⟩ : ∃ o, ownL R s.data.toList (dir || !ne) = o := ⟨_, rfl⟩
        have HO := Aside0.mk ho
        clear ho
        have HYES : Aside0 (o = true → r = true) := ⟨fun h => by rw [HRR.out, HS.out.2.2, igN_step R _ HV.out, HNE.out, HO.out, h]; rfl⟩
        have HNO : Aside0 (o = false → IgI R p.data.toList (parentL s.data.toList) dir) := ⟨fun h => HS.out.next HV.out (by rw [HNE.out, HO.out, h])⟩
        rcases hdd : dir with _ | _
        · subst hdd
          cases ne with
          | true =>
            cases o with
            | true =>
              have HO2 : Aside0 (ownL R s.data.toList false = true) := ⟨HO.out⟩
              go_wp2_with (go_at_call 31; refine (own_calls s _ _ HI2.out (by omega) hR).mono ?_; rintro e w2 ⟨rfl, hb2⟩; rw [HO2.out]; have HB2 := Aside0.mk (below_step HB.out hb2); clear hb2)
              go_ret
              exact ⟨by rw [HYES.out (by first | exact trivial | rfl)]; rfl, HB2.out⟩
            | false =>
              have HO2 : Aside0 (ownL R s.data.toList false = false) := ⟨HO.out⟩
              go_wp2_with (first | (go_at_call 31; refine (own_calls s _ _ HI2.out (by omega) hR).mono ?_; rintro e w2 ⟨rfl, hb2⟩; rw [HO2.out]; have HB2 := Aside0.mk (below_step HB.out hb2); clear hb2) | (go_at_call 30; refine (parent_calls s _ (by omega)).mono ?_; rintro e w3 ⟨rfl, hb3⟩; have HB3 := Aside0.mk (below_step HB2.out hb3); clear hb3))
              go_roundw
              case rel => exact ⟨_, rfl, by show (str _).size ≤ _; rw [← len_data, str_data]; have := HLT.out; have := HSZ.out; omega, ⟨by rw [str_data]; exact HNO.out (by first | exact trivial | rfl), HB3.out⟩⟩
              case measure => show (str _).size < s.size; rw [← len_data, str_data]; have := HLT.out; have := HSZ.out; omega
          | false =>
            cases o with
            | true =>
              have HO2 : Aside0 (ownL R s.data.toList true = true) := ⟨HO.out⟩
              go_wp2_with (go_at_call 31; refine (own_calls s _ _ HI2.out (by omega) hR).mono ?_; rintro e w2 ⟨rfl, hb2⟩; rw [HO2.out]; have HB2 := Aside0.mk (below_step HB.out hb2); clear hb2)
              go_ret
              exact ⟨by rw [HYES.out (by first | exact trivial | rfl)]; rfl, HB2.out⟩
            | false =>
              have HO2 : Aside0 (ownL R s.data.toList true = false) := ⟨HO.out⟩
              go_wp2_with (first | (go_at_call 31; refine (own_calls s _ _ HI2.out (by omega) hR).mono ?_; rintro e w2 ⟨rfl, hb2⟩; rw [HO2.out]; have HB2 := Aside0.mk (below_step HB.out hb2); clear hb2) | (go_at_call 30; refine (parent_calls s _ (by omega)).mono ?_; rintro e w3 ⟨rfl, hb3⟩; have HB3 := Aside0.mk (below_step HB2.out hb3); clear hb3))
              go_roundw
              case rel => exact ⟨_, rfl, by show (str _).size ≤ _; rw [← len_data, str_data]; have := HLT.out; have := HSZ.out; omega, ⟨by rw [str_data]; exact HNO.out (by first | exact trivial | rfl), HB3.out⟩⟩
              case measure => show (str _).size < s.size; rw [← len_data, str_data]; have := HLT.out; have := HSZ.out; omega
        · subst hdd
          cases o with
          | true =>
            have HO2 : Aside0 (ownL R s.data.toList true = true) := ⟨HO.out⟩
            go_wp2_with (go_at_call 31; refine (own_calls s _ _ HI2.out (by omega) hR).mono ?_; rintro e w2 ⟨rfl, hb2⟩; rw [HO2.out]; have HB2 := Aside0.mk (below_step HB.out hb2); clear hb2)
            go_ret
            exact ⟨by rw [HYES.out (by first | exact trivial | rfl)]; rfl, HB2.out⟩
          | false =>
            have HO2 : Aside0 (ownL R s.data.toList true = false) := ⟨HO.out⟩
            go_wp2_with (first | (go_at_call 31; refine (own_calls s _ _ HI2.out (by omega) hR).mono ?_; rintro e w2 ⟨rfl, hb2⟩; rw [HO2.out]; have HB2 := Aside0.mk (below_step HB.out hb2); clear hb2) | (go_at_call 30; refine (parent_calls s _ (by omega)).mono ?_; rintro e w3 ⟨rfl, hb3⟩; have HB3 := Aside0.mk (below_step HB2.out hb3); clear hb3))
            go_roundw
            case rel => exact ⟨_, rfl, by show (str _).size ≤ _; rw [← len_data, str_data]; have := HLT.out; have := HSZ.out; omega, ⟨by rw [str_data]; exact HNO.out (by first | exact trivial | rfl), HB3.out⟩⟩
            case measure => show (str _).size < s.size; rw [← len_data, str_data]; have := HLT.out; have := HSZ.out; omega

theorem lines_calls {g base : Nat} {L : List (List UInt8)} {R : List Rl} (w : World) (h : IsR w g base L R) (hl : L.length ≤ 1000000000) :
    Calls Tryd.prog 20 #[.pointer (some ⟨g, 0, none⟩)] w fun e w' => ∃ v', e = .returned v' ∧ SlS w' 0 v' L ∧ Below w.heap.size w w' := by
  obtain ⟨vl, vr, hg, hbx, hvl, _, _, ⟨A, n, c, rfl⟩⟩ := h
  have HV := Aside0.mk hvl
  have c0 := (blk hbx).1 0
  simp only [List.getElem?_toArray, List.getElem?_cons_zero] at c0
  clear hbx hvl
  go_enter Tryd.func20, Tryd.ntmps20
  go_wp2_with (go_at_call 27; refine (sclone_calls w (Sl.of_own (b := 0) HV.out) hl).mono ?_; rintro e w1 ⟨v', rfl, hown, hb1⟩; have HO := Aside0.mk hown; have HB1 := Aside0.mk hb1; obtain ⟨A1, n1, c1, rfl⟩ := own_sh hown; clear hown hb1)
  go_ret
  exact ⟨_, rfl, Sl.of_own HO.out, HB1.out⟩
end Go.Proofs.YtkalfkgnjmkjgaaDoor
