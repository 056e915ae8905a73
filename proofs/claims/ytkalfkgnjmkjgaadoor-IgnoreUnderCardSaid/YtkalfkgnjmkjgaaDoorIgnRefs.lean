/-
  The reference's rules, and what they ignore. No condition but lengths.
-/
import Derived.Test.YtkalfkgnjmkjgaaDoorIgnRRule2
import Derived.Test.YtkalfkgnjmkjgaaDoorIgnRMatch
import Derived.Test.YtkalfkgnjmkjgaaDoorIgnIgn
import Derived.Test.YtkalfkgnjmkjgaaDoorRefPath4
namespace Go.Proofs.YtkalfkgnjmkjgaaDoor
open Go.RowKit Go.Joins
set_option linter.unusedVariables false
set_option linter.unusedSimpArgs false

def rrC (x : Rl) : List Value := [.bool x.not, .bool x.dirs, .bool x.whole, .string (str x.pat)]
theorem rrC_len (x : Rl) : (rrC x).length = 4 := rfl
theorem rrC_one (t : Rl) : ∀ c ∈ rrC t, c.oneCell' = true := by
  intro c hc
  simp only [rrC, List.mem_cons, List.not_mem_nil, or_false] at hc
  rcases hc with rfl | rfl | rfl | rfl <;> rfl
theorem info_rr : (Tryd.prog.info? 64).map (fun i => (i.zero, i.size, i.bytes)) = some (some (.agg #[.bool false, .bool false, .bool false, .string ⟨#[]⟩]), 4, 24) := by kernel_rfl
theorem slc_rr {w : World} {b g : Nat} {t : Rl} (h : w.heap[g]? = some (.cells #[.bool t.not, .bool t.dirs, .bool t.whole, .string (str t.pat)] 64 (0, 0))) : SlC rrC 64 w b (.slice (some ⟨g, 0, none⟩) 1 1) [t] :=
  SlC.of_own (cells := rrC) (xs := [t]) (k := 4) (base := 0) ⟨by simp [rrC_len], .inr ⟨g, 1, _, rfl, Nat.zero_le _, h, Nat.le_refl _, by simp [maxLen], by simp, by simp [rrC]⟩⟩ b
theorem rr_at {e : Nat} {w : World} {base : Nat} {v : Value} {l : List Rl} (h : SlC rrC e w base v l) (i : Nat) (hi : i < l.length) : ∃ ad c, v = .slice (some ad) l.length c ∧
    w.cell? (ad.add (i * 4)) = some (.bool (rk l i).not) ∧ w.cell? ⟨(ad.add (i * 4)).block, (ad.add (i * 4)).off + 1, none⟩ = some (.bool (rk l i).dirs) ∧
    w.cell? ⟨(ad.add (i * 4)).block, (ad.add (i * 4)).off + 2, none⟩ = some (.bool (rk l i).whole) ∧ w.cell? ⟨(ad.add (i * 4)).block, (ad.add (i * 4)).off + 3, none⟩ = some (.string (str (rk l i).pat)) := by
  have hk : rk l i = l[i]'hi := rk_get l hi
  obtain ⟨ad, c, rfl, hcell⟩ := h.at rrC_len (by decide) i hi
  rw [hk]
  refine ⟨ad, c, rfl, ?_, ?_, ?_, ?_⟩
  · exact hcell 0 _ rfl
  · have h := hcell 1 _ rfl; rw [← add_add] at h; exact h
  · have h := hcell 2 _ rfl; rw [← add_add] at h; exact h
  · have h := hcell 3 _ rfl; rw [← add_add] at h; exact h

/-- What Rules answers. -/
def RNewB (w : World) (L : List (List UInt8)) (e : Ending) (w' : World) : Prop :=
  (if allOk L = true then ∃ v, e = .returned (.tuple #[v, .int .i64 0]) ∧ SlC rrC 64 w' 0 v (L.map rlOf) else e = .returned (.tuple #[.slice none 0 0, .int .i64 1])) ∧ Below w.heap.size w w'
def RNewA (w : World) (L : List (List UInt8)) (e : Ending) (w' : World) : Prop :=
  (if 50 < L.length then e = .returned (.tuple #[.slice none 0 0, .int .i64 3]) else if allOk L = true then ∃ v, e = .returned (.tuple #[v, .int .i64 0]) ∧ SlC rrC 64 w' 0 v (L.map rlOf) else e = .returned (.tuple #[.slice none 0 0, .int .i64 1])) ∧ Below w.heap.size w w'
def RNwS (w wr : World) (v : Value) (L : List (List UInt8)) (k : Nat) : Prop :=
  wr.ownsRow w.heap.size 64 4 v ((L.take k).map rlOf).length (((L.take k).map rlOf).flatMap rrC) ∧ (∀ S ∈ L.take k, okR S = true) ∧ Below w.heap.size w wr

set_option maxRecDepth 4000 in
set_option maxHeartbeats 4000000 in
theorem rrules_calls {b0 : Nat} {v : Value} {L : List (List UInt8)} (w : World) (hv : SlS w b0 v L) (hl : L.length ≤ 1000000000) (hl2 : ∀ S ∈ L, S.length ≤ 1000000000) :
    Calls Tryd.prog 17 #[v] w (RNewA w L) := by
  have HV := Aside0.mk hv
  have HL2 := Aside0.mk hl2
  obtain ⟨A, c, rfl, hc, hm, _⟩ := hv
  by_cases h50 : 50 < L.length
  · have HP : Aside0 (∀ e w', e = .returned (.tuple #[.slice none 0 0, .int .i64 3]) ∧ Below w.heap.size w w' → RNewA w L e w') := ⟨fun e w' h => ⟨by rw [if_pos h50]; exact h.1, h.2⟩⟩
    refine Calls.mono ?_ HP.out
    clear HP
    go_enter Tryd.func17, Tryd.ntmps17
    go_wp2_with fail
    go_ret2
    exact ⟨rfl, Below.refl _ _⟩
  · have HP : Aside0 (∀ e w', RNewB w L e w' → RNewA w L e w') := ⟨fun e w' h => ⟨by rw [if_neg h50]; exact h.1, h.2⟩⟩
    refine Calls.mono ?_ HP.out
    clear HP
    have h51 : L.length ≤ 50 := by omega
    go_enter Tryd.func17, Tryd.ntmps17
    go_wp2_with fail
    go_loopw [4, 5] (fun v i wr => ∃ (k : Nat) (A : Option Addr) (n c : Nat), k ≤ L.length ∧ i = .int .i64 k ∧ v = .slice A n c ∧ Aside0 (RNwS w wr v L k)) (fun v i wr => L.length - (intOf i).toNat)
    case atStart => exact ⟨0, none, 0, 0, Nat.zero_le _, rfl, rfl, ⟨World.ownsRow_nil _ _ _ _, by simp, Below.refl _ _⟩⟩
    case round =>
      obtain ⟨k, A2, n2, c2, hk, rfl, rfl, hs⟩ := hrel
      by_cases hlt : k < L.length
      · have hB := hs.out.2.2
        obtain ⟨ad1, d1, he1, hcell1⟩ := HV.out.at k hlt
        cases he1
        have hcell1 := cell_keep hB hcell1
        have HS1 := Aside0.mk (take_getD (x := []) hlt)
        obtain ⟨S, hS⟩ : ∃ S, S = L.getD k [] := ⟨_, rfl⟩
        rw [← hS] at hcell1 HS1
        clear hS
        have hSl : S.length ≤ 1000000000 := HL2.out S (List.mem_of_getElem? HS1.out)
        obtain ⟨s, hs1⟩ : ∃ s, s = str S := ⟨_, rfl⟩
        rw [← hs1] at hcell1
        have hsS : s.data.toList = S := by rw [hs1, str_data]
        have hsz : s.size ≤ 1000000000 := by rw [← len_data, hsS]; exact hSl
        have HSS := Aside0.mk hsS
        clear hs1 hsS
        have z1 : (0 : Int) ≤ (k : Int) := by omega
        have z2 : (k : Int) < L.length := by omega
        have HVR := Aside0.mk hs.out.1
        have HAO := Aside0.mk hs.out.2.1
        have HB := Aside0.mk hB
        clear hB hs
        go_wp2_with fail
        refine (rrule_calls s wr hsz).mono ?_
        rintro e w2 ⟨p, nn, dd, hh, rfl, hpp, hb2⟩
        rw [HSS.out] at hpp ⊢
        have HPP := Aside0.mk hpp
        have HB2 := Aside0.mk (below_step HB.out hb2)
        have HVR2 := Aside0.mk (own_below HVR.out hb2)
        clear hpp hb2 HVR
        rcases hok : okR S with _ | _
        · have HE : Aside0 (allOk L = false) := ⟨by
            rw [allOk, List.all_eq_false]
            exact ⟨S, List.mem_of_getElem? HS1.out, by rw [hok]; decide⟩⟩
          have HB3 : Aside0 (∀ o, Below w.heap.size w (w2.alloc o)) := ⟨fun o => HB2.out.alloc HB2.out.size o⟩
          clear hok
          go_wp2_with fail
          go_ret2
          exact ⟨by rw [if_neg (by rw [HE.out]; decide)]; rfl, HB3.out _⟩
        · have HOK := Aside0.mk hok
          obtain ⟨p1, p2, p3, p4⟩ := HPP.out hok
          obtain ⟨r, hr⟩ : ∃ r, r = rlOf S := ⟨_, rfl⟩
          obtain rfl : p = str r.pat := by rw [hr]; exact str_of_list p1
          obtain rfl : nn = r.not := by rw [hr]; exact p2
          obtain rfl : dd = r.dirs := by rw [hr]; exact p3
          obtain rfl : hh = r.whole := by rw [hr]; exact p4
          have HR := Aside0.mk hr
          obtain ⟨R, hR⟩ : ∃ R, R = (L.take k).map rlOf := ⟨_, rfl⟩
          have HRL : Aside0 (R.length ≤ 50) := ⟨by rw [hR, List.length_map, List.length_take]; omega⟩
          have HRN : Aside0 ((L.take (k + 1)).map rlOf = R ++ [r]) := ⟨by rw [List.take_add_one, HS1.out, hR, hr]; simp⟩
          rw [← hR] at HVR2
          clear hok p1 p2 p3 p4 HPP hr hR
          go_wp2_with (at_builtin
                       go_must (refine wpList_append_rows rrC 4 rrC_len (by decide) rfl (.tmp 27) (.tmp 29) 36 rfl w.heap.size 64 64 0 (.agg #[.bool false, .bool false, .bool false, .string ⟨#[]⟩]) 24 Tryd.underlying36 info_rr rfl (by decide) (.slice A2 n2 c2) R [r] (.slice (some ⟨w2.heap.size + 1, 0, none⟩) 1 1) rfl rfl (own_below (own_below HVR2.out ((Below.refl _ _).alloc (Nat.le_refl _) _)) ((Below.refl _ _).alloc (Nat.le_refl _) _)) (slc_rr (heap_new (by simp))) (fun y hy => rrC_one y) (by have := HRL.out; simp; omega) (by have := HB2.out.size; simp; omega) ?_)
                       intro v3 w3 hown3 hgr3 hsh3
                       obtain ⟨A3, n3, c3, rfl⟩ := hsh3
                       have H3 := Aside0.mk (show RNwS w w3 (.slice A3 n3 c3) L (k + 1) from ⟨by rw [HRN.out]; exact hown3, fun T hT => by
                         rw [List.take_add_one, HS1.out] at hT
                         rcases List.mem_append.1 hT with hT | hT
                         · exact HAO.out T hT
                         · rw [show T = S by simpa using hT]; exact HOK.out, ((HB2.out.alloc HB2.out.size _).alloc (by have := HB2.out.size; simp; omega) _).grown hgr3 (by have := HB2.out.size; simp; omega) (own_base HVR2.out)⟩)
                       clear hown3 hgr3)
          go_roundw
          case rel => exact ⟨k + 1, _, _, _, by omega, by go_num, rfl, H3⟩
          case measure => simp [intOf]; omega
      · have : k = L.length := by omega
        subst this
        have HE : Aside0 (allOk L = true) := ⟨by
          rw [allOk, List.all_eq_true]
          intro S hS
          exact hs.out.2.1 S (by rw [List.take_length]; exact hS)⟩
        have HR : Aside0 (SlC rrC 64 wr 0 (.slice A2 n2 c2) (L.map rlOf)) := ⟨by have h := hs.out.1; rw [List.take_length] at h; exact SlC.of_own (cells := rrC) (k := 4) h 0⟩
        have HB := Aside0.mk hs.out.2.2
        go_wp2_with fail
        go_ret2
        exact ⟨by rw [if_pos HE.out]; exact ⟨_, rfl, HR.out⟩, HB.out⟩
end Go.Proofs.YtkalfkgnjmkjgaaDoor
