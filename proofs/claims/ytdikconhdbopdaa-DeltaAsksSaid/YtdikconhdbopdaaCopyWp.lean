/-
  copy into a row of bytes that the call owns, as one operation. No condition but that what is copied can be read.
-/
import Derived.Test.YtdikconhdbopdaaCopy
namespace Go.Proofs.Ytdikconhdbopdaa
open Go.RowKit
set_option linter.unusedVariables false
set_option linter.unusedSimpArgs false

theorem wp_copy_nothing {P : Program} {w : World} {o : Oper} {a : Act} {K : Act → World → Prop} {Q : Exit → Act → World → Prop} (d s : Operand) (dT sT : TypeId)
    (ho : o.op = .call { callee := .builtin .copy, args := #[d, s], argTypes := #[dT, sT] }) (elem : TypeId) (hu : P.underlying dT = some (.slice elem)) (hsz : (P.info? elem).map (·.size) = some 1)
    (dp sp : Option Addr) (dLen dCap sLen sCap : Nat) (hd : a.eval d = .slice dp dLen dCap) (hs : a.eval s = .slice sp sLen sCap) (hn : Nat.min sLen dLen = 0)
    (h : K (a.put o.dst (goInt 0)) w) : Oper.wp P o a w K Q := by
  have hrun := run_copy_none (P := P) w dT sT o.type elem dp sp dLen dCap sLen sCap hu hsz hn
  unfold Oper.wp
  simp [execOp, ho, resolve, invoke, builtin, hd, hs, hrun, Result.andThen]
  exact h
theorem wp_copy_own {P : Program} {w : World} {o : Oper} {a : Act} {K : Act → World → Prop} {Q : Exit → Act → World → Prop} (d s : Operand) (dT sT : TypeId)
    (ho : o.op = .call { callee := .builtin .copy, args := #[d, s], argTypes := #[dT, sT] }) (elem : TypeId) (hu : P.underlying dT = some (.slice elem)) (hsz : (P.info? elem).map (·.size) = some 1)
    (g off dLen dCap : Nat) (ad : Addr) (sLen sCap : Nat) (hd : a.eval d = .slice (some ⟨g, off, none⟩) dLen dCap) (hs : a.eval s = .slice (some ad) sLen sCap)
    (cur : Array Value) (t : TypeId) (hg : w.heap[g]? = some (.cells cur t (0, 0))) (cs : List Value) (hn : cs.length = Nat.min sLen dLen)
    (hsrc : ∀ j v, cs[j]? = some v → w.cell? (ad.add j) = some v) (hfit : off + cs.length ≤ cur.size) (h1 : ∀ v ∈ cs, v.oneCell' = true)
    (h : K (a.put o.dst (goInt cs.length)) (w.setRow g (cur.toList.take off ++ (cs ++ cur.toList.drop (off + cs.length))).toArray)) : Oper.wp P o a w K Q := by
  have hrun := run_copy_row (P := P) w dT sT o.type elem g off dLen dCap ad sLen sCap cur t cs hu hsz hg hn hsrc hfit h1
  unfold Oper.wp
  simp [execOp, ho, resolve, invoke, builtin, hd, hs, hrun, Result.andThen]
  exact h
theorem wp_copy_bytes {P : Program} {w : World} {o : Oper} {a : Act} {K : Act → World → Prop} {Q : Exit → Act → World → Prop} (hP : P = Try.prog) (d s : Operand)
    (ho : o.op = .call { callee := .builtin .copy, args := #[d, s], argTypes := #[22, 22] })
    {base g n cap off dLen dCap e b0 : Nat} {dp : Option Addr} {u : Value} {x y : List UInt8} (hd : a.eval d = .slice dp dLen dCap) (hdp : 0 < dLen → dp = some ⟨g, off, none⟩) (hown : OwnB w base (.slice (some ⟨g, 0, none⟩) n cap) x) (hoff : off + dLen = x.length)
    (hs : a.eval s = u) (hu : Sl bv e w b0 u y)
    (h : ∀ (m : Int) (w' : World), OwnB w' base (.slice (some ⟨g, 0, none⟩) n cap) (splB x off y) → w.grownBy w' (some g) → K (a.put o.dst (.int .i64 m)) w') : Oper.wp P o a w K Q := by
  subst hP
  obtain ⟨A, c, rfl, hc, hm, hR⟩ := hu
  have hsz : (Try.prog.info? 5).map (·.size) = some 1 := by kernel_rfl
  by_cases h0 : Nat.min y.length dLen = 0
  · refine wp_copy_nothing d s 22 22 ho 5 Try.underlying22 hsz dp A dLen dCap y.length c hd hs h0 ?_
    have hx : splB x off y = x := by
      have hd0 : x.length - off = dLen := by omega
      unfold splB
      rw [hd0]
      have : (y.take dLen).length = 0 := by rw [List.length_take]; rw [Nat.min_comm]; exact h0
      rw [List.eq_nil_of_length_eq_zero this]
      simp
    exact h 0 w (by rw [hx]; exact hown) (World.grownBy.refl _ _)
  · have hdl : 0 < dLen := by
      rcases Nat.eq_zero_or_pos dLen with h1 | h1
      · subst h1; exact absurd (Nat.min_zero _) h0
      · exact h1
    have hyl : 0 < y.length := by
      rcases Nat.eq_zero_or_pos y.length with h1 | h1
      · rw [h1] at h0; exact absurd (Nat.zero_min _) h0
      · exact h1
    obtain rfl := hdp hdl
    obtain ⟨ad, rfl, _⟩ := hR.cell 0 _ (List.getElem?_eq_getElem (by rw [List.length_map]; exact hyl))
    rcases hown.2 with ⟨h', _⟩ | ⟨g', cap', cur, h', hgb, hgg, hn1, hn2, hn3, hn4⟩
    · cases h'
    · cases h'
      have hcl : (((y.take dLen).map bv)).length = Nat.min y.length dLen := by rw [List.length_map, List.length_take, Nat.min_comm]
      have hX : cur.toList = x.map bv ++ cur.toList.drop x.length := by
        have := List.take_append_drop x.length cur.toList
        rw [Nat.mul_one] at hn4
        rw [← hn4]
        exact this.symm
      have hcur : cur.toList.length = cur.size := Array.length_toList
      have hmin : Nat.min y.length dLen ≤ dLen := Nat.min_le_right _ _
      refine wp_copy_own d s 22 22 ho 5 Try.underlying22 hsz g off dLen dCap ad y.length c hd hs cur 5 hgg ((y.take dLen).map bv) hcl ?_ (by rw [hcl]; omega) ?_ ?_
      · intro j v hj
        rw [List.map_take, List.getElem?_take] at hj
        split at hj
        · obtain ⟨ad', h1, h2⟩ := hR.cell j v hj
          cases h1; exact h2
        · cases hj
      · intro v hv
        obtain ⟨z, _, rfl⟩ := List.mem_map.1 hv
        rfl
      · have hlen := splB_length x off y (by omega)
        have hxo : x.length - off = dLen := by omega
        have hk : off + ((y.take dLen).map bv).length ≤ x.length := by rw [hcl]; omega
        refine h _ _ ?_ ⟨rfl, rfl, rfl, by simp [World.setRow], fun k hk hne => setRow_other w g k _ (by simpa using hne)⟩
        unfold OwnB
        rw [hlen]
        refine ⟨by simp [hlen], .inr ⟨g, cap, _, rfl, hgb, setRow_heap w g _ _ _ _ hgg, hn1, hn2, ?_, ?_⟩⟩
        · simp only [List.size_toArray, List.length_append, List.length_take, List.length_drop]
          omega
        · rw [Nat.mul_one]
          have hcs : (splB x off y).map bv = (x.map bv).take off ++ ((y.take dLen).map bv ++ (x.map bv).drop (off + ((y.take dLen).map bv).length)) := by
            unfold splB
            rw [hxo]
            simp [List.map_append, List.map_take, List.map_drop]
          have hX' : cur.toList.take off ++ ((y.take dLen).map bv ++ cur.toList.drop (off + ((y.take dLen).map bv).length)) = (splB x off y).map bv ++ cur.toList.drop x.length := by
            have hxl : (x.map bv).length = x.length := by simp
            have hdr : cur.toList.drop (off + ((y.take dLen).map bv).length) = (x.map bv).drop (off + ((y.take dLen).map bv).length) ++ cur.toList.drop x.length := by
              conv => lhs; rw [hX]
              rw [List.drop_append_of_le_length (by omega)]
            have htk : cur.toList.take off = (x.map bv).take off := by
              conv => lhs; rw [hX]
              rw [List.take_append_of_le_length (by rw [List.length_map]; omega)]
            rw [hcs, hdr, htk]
            simp only [List.append_assoc]
          show List.take x.length (List.toArray _).toList = _
          rw [List.toList_toArray, hX', List.take_append_of_le_length (by rw [List.length_map, hlen]; exact Nat.le_refl _), List.take_of_length_le (by rw [List.length_map, hlen]; exact Nat.le_refl _)]
end Go.Proofs.Ytdikconhdbopdaa
