/-
  The reference's Update: what is refused. No condition but that the slices can be read.
-/
import Derived.Test.YtdfhelefhhodhaaUpdate2
import Derived.Test.YtdfhelefhhodhaaRBuild
namespace Go.Proofs.Ytdfhelefhhodhaa
open Go.RowKit
set_option linter.unusedVariables false
set_option linter.unusedSimpArgs false

set_option maxHeartbeats 2000000 in
theorem rupdate_bad {b0 b1 b2 e1 e2 : Nat} {vp vo vn : Value} {par : List (List UInt8)} {old now : List UInt8} (block k : Int) (w : World) (hp : SlL w b0 vp par) (ho : Sl bv e1 w b1 vo old) (hn : Sl bv e2 w b2 vn now)
    (hb : -9223372036854775808 ≤ block ∧ block ≤ 9223372036854775807) (hk : -9223372036854775808 ≤ k ∧ k ≤ 9223372036854775807) (hbad : updOk par old block k = false) :
    Calls Try.prog 16 #[vp, vo, vn, .int .i64 block, .int .i64 k] w fun e w' => e = .returned (.tuple #[.slice none 0 0, .int .i64 1]) ∧ Below w.heap.size w w' := by
  have HP := Aside0.mk hp
  obtain ⟨A, c, rfl, hc, hm⟩ := hp.shape
  obtain ⟨Ao, co, rfl, _, hmo, _⟩ := ho
  obtain ⟨An, cn, rfl, _, hmn, _⟩ := hn
  clear hp
  by_cases h1 : block < 1
  · clear hbad
    go_enter Try.func16, Try.ntmps16
    go_wp2_with fail
    go_ret2
    exact ⟨rfl, Below.refl _ _⟩
  · by_cases h2 : 4096 < block
    · clear hbad
      go_enter Try.func16, Try.ntmps16
      go_wp2_with fail
      go_ret2
      exact ⟨rfl, Below.refl _ _⟩
    · by_cases h3 : k < 1
      · clear hbad
        go_enter Try.func16, Try.ntmps16
        go_wp2_with fail
        go_ret2
        exact ⟨rfl, Below.refl _ _⟩
      · by_cases h4 : 8 < k
        · clear hbad
          go_enter Try.func16, Try.ntmps16
          go_wp2_with fail
          go_ret2
          exact ⟨rfl, Below.refl _ _⟩
        · have hmay : mayB block k = true := mayB_true (by omega)
          have HG := Aside0.mk (grp_bd old.length block k)
          rcases hlen : ((par.length : Int) == grp old.length block k) with _ | _
          · have HLEN := Aside0.mk hlen
            clear hmay hbad hlen
            go_enter Try.func16, Try.ntmps16
            go_wp2_with fail
            refine (rgroups_calls _ _ _ _ (by omega) hb).mono ?_
            rintro e w' ⟨rfl, rfl⟩
            have hl := HLEN.out
            generalize grp old.length block k = q at hl ⊢
            have hl2 : ((par.length : Int) != q) = true := by rw [bne, hl]; rfl
            clear hl
            go_wp2_with fail
            go_ret2
            exact ⟨rfl, Below.refl _ _⟩
          · have hall : allLen par block = false := by
              unfold updOk at hbad; rw [hmay, hlen] at hbad; simpa using hbad
            have HALL := Aside0.mk hall
            have HLEN := Aside0.mk hlen
            clear hmay hbad hlen hall
            go_enter Try.func16, Try.ntmps16
            go_wp2_with fail
            refine (rgroups_calls _ _ _ _ (by omega) hb).mono ?_
            rintro e w' ⟨rfl, rfl⟩
            have hl := HLEN.out
            generalize grp old.length block k = q at hl ⊢
            have hl2 : ((par.length : Int) != q) = false := by rw [bne, hl]; rfl
            clear hl
            go_wp2_with fail
            go_loop [12] (fun i => ∃ n : Nat, n ≤ par.length ∧ i = .int .i64 n ∧ Aside0 (allLen (par.take n) block = true)) (fun i => par.length - (intOf i).toNat)
            case atStart => exact ⟨0, by omega, rfl, ⟨rfl⟩⟩
            case round =>
              obtain ⟨n, hn, rfl, hs⟩ := hrel
              by_cases hlt : n < par.length
              · obtain ⟨ad, c3, u, A3, cu, he, hu, hcell, hsl⟩ := HP.out.at n hlt
                cases he
                subst hu
                have HT := Aside0.mk (allLen_take par block n hlt hs.out)
                obtain ⟨x, hx⟩ : ∃ x, x = par.getD n [] := ⟨_, rfl⟩
                rw [← hx] at hcell HT
                clear hx hsl
                by_cases hxb : (x.length : Int) = block
                · have e1 : ((x.length : Int) != block) = false := by rw [bne_eq_false_iff_eq]; exact hxb
                  have H3 := Aside0.mk (HT.out hxb)
                  clear hxb
                  go_wp2_with fail
                  go_round
                  case rel => exact ⟨n + 1, by omega, by go_num, H3⟩
                  case measure => simp [intOf]; omega
                · have e1 : ((x.length : Int) != block) = true := by rw [bne_iff_ne]; exact hxb
                  clear hxb
                  go_wp2_with fail
                  go_ret2
                  exact ⟨rfl, Below.refl _ _⟩
              · exfalso
                have h5 := hs.out
                rw [List.take_of_length_le (by omega), HALL.out] at h5
                cases h5

theorem fill_next {L : List UInt8} {B j : Nat} (hL : L.length = B) (hj : j < B) : (L.take j ++ List.replicate (B - j) 0).set j (L.getD j 0) = L.take (j + 1) ++ List.replicate (B - (j + 1)) 0 := by
  have h1 : (L.take j).length = j := by rw [List.length_take]; omega
  have h2 : List.replicate (B - j) (0 : UInt8) = 0 :: List.replicate (B - (j + 1)) 0 := by
    rw [show B - j = (B - (j + 1)) + 1 by omega, List.replicate_succ]
  have h3 : L.take (j + 1) = L.take j ++ [L.getD j 0] := by
    rw [List.take_succ_eq_append_getElem (by omega)]; simp [List.getElem?_eq_getElem (show j < L.length by omega)]
  rw [h2, h3, List.set_append, if_neg (by omega), h1, Nat.sub_self]
  simp
theorem buildL_getD {data : List UInt8} {block k : Int} {n : Nat} (h : n < (buildL data block k).length) : (buildL data block k).getD n [] = oneL data block k n := by
  unfold buildL at h ⊢
  rw [buildN_length] at h
  simp [buildN, List.getElem?_map, List.getElem?_range h]
theorem updG_two {par : List (List UInt8)} {old now : List UInt8} {B : Nat} {k : Int} {g j : Nat} (h : par.length ≤ g) (hj : j < B) : (updG par old now (B : Int) k g).getD j 0 = (oneL now (B : Int) k g).getD j 0 := by
  rw [updG, if_neg (by omega), xorL_zeros _ _ (by rw [oneL, oneN_length])]
theorem updG_one {par : List (List UInt8)} {old now : List UInt8} {B : Nat} {k : Int} {g j : Nat} (h : g < par.length) (hl : (par.getD g []).length = B) (hj : j < B) :
    (updG par old now (B : Int) k g).getD j 0 = (oneL now (B : Int) k g).getD j 0 ^^^ (oneL old (B : Int) k g).getD j 0 ^^^ (par.getD g []).getD j 0 := by
  rw [updG, if_pos h, xorL_get, if_pos (by rw [xorL_length, hl]; exact hj), xorL_get, if_pos (by rw [hl]; exact hj)]
  rw [UInt8.xor_comm ((par.getD g []).getD j 0 ^^^ _), UInt8.xor_comm ((par.getD g []).getD j 0), UInt8.xor_assoc]
theorem updG_length {par : List (List UInt8)} {old now : List UInt8} {B : Nat} {k : Int} {g : Nat} (hl : g < par.length → (par.getD g []).length = B) : (updG par old now (B : Int) k g).length = B := by
  unfold updG
  rw [xorL_length]
  split
  · rename_i h; rw [xorL_length]; exact hl h
  · simp
/-- A byte of a piece of a list. -/
theorem SlL.byte {w : World} {base : Nat} {v : Value} {L : List (List UInt8)} (h : SlL w base v L) (i j : Nat) (hi : i < L.length) (hj : j < (L.getD i []).length) :
    ∃ (ad ad' : Addr) (c c' : Nat), v = .slice (some ad) L.length c ∧ w.cell? (ad.add i) = some (.slice (some ad') (L.getD i []).length c') ∧ w.cell? (ad'.add j) = some (.int .u8 (((L.getD i []).getD j 0).toNat : Int)) := by
  obtain ⟨ad, c, u, A', c', he, hu, hcell, hsl⟩ := h.at i hi
  subst hu
  generalize L.getD i [] = x at hj hcell hsl ⊢
  obtain ⟨_, _, he2, _, _, hR⟩ := hsl
  cases he2
  obtain ⟨ad', h1, h2⟩ := hR.cell j (bv x[j]) (by simp only [List.getElem?_map]; rw [List.getElem?_eq_getElem hj]; rfl)
  subst h1
  refine ⟨ad, ad', c, c', he, hcell, ?_⟩
  rw [h2, List.getD_eq_getElem?_getD, List.getElem?_eq_getElem hj]; rfl

end Go.Proofs.Ytdfhelefhhodhaa
