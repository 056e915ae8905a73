/-
  sidecar.Sound, Make, Check, Repair. No condition but that what comes in can be read and is none too long.
-/
import Derived.Test.YtplbmflgmfoanaaSideFns
import Derived.Test.YtplbmflgmfoanaaMerLevels
import Derived.Test.YtplbmflgmfoanaaFix1
import Derived.Test.YtplbmflgmfoanaaFlow
namespace Go.Proofs.Ytplbmflgmfoanaa
open Go.RowKit
set_option linter.unusedVariables false
set_option linter.unusedSimpArgs false

/-- A sidecar, as a value. -/
def sideV (size block k : Int) (vr vl vp : Value) : Value := .agg #[.int .i64 size, .int .i64 block, .int .i64 k, vr, vl, vp]
/-- It can be read. -/
structure SideR (w : World) (vr vl vp : Value) (root : List UInt8) (leaves par : List (List UInt8)) : Prop where
  r : ∃ b, Sl bv 5 w b vr root
  l : ∃ b, SlL w b vl leaves
  p : ∃ b, SlL w b vp par
theorem SideR.below {w w1 : World} {vr vl vp : Value} {root : List UInt8} {leaves par : List (List UInt8)} (h : SideR w vr vl vp root leaves par) (hb : Below w.heap.size w w1) : SideR w1 vr vl vp root leaves par :=
  ⟨h.r.elim fun b h => ⟨b, h.below hb⟩, h.l.elim fun b h => ⟨b, h.below hb⟩, h.p.elim fun b h => ⟨b, h.below hb⟩⟩

theorem FitM.of_long {L : List (List UInt8)} {m : Int} (h : longB L m 32 = true) (hl : L.length ≤ 1000000000) : FitM L := by
  simp only [longB, Bool.and_eq_true] at h
  exact FitM.of_len h.2 (by decide) hl

section
set_option maxRecDepth 100000
/-- What each slot of the region holds. -/
def SndA (W : World) (G : Nat) (size block k q gq : Int) (Ar Al Ap : Option Addr) (nr nl np cr cl cp : Nat) (RL : List UInt8) : Nat → Value → World → Prop
  | 0, v, w => v = .pointer (some ⟨G, 4, none⟩)
  | 1, v, w => v = .slice Al nl cl
  | 2, v, w => v = .pointer (some ⟨G, 0, none⟩)
  | 3, v, w => v = .int .i64 size
  | 4, v, w => v = .pointer (some ⟨G, 1, none⟩)
  | 5, v, w => v = .int .i64 block
  | 6, v, w => v = .int .i64 q
  | 7, v, w => v = .bool false
  | 8, v, w => v = .bool false
  | 9, v, w => True
  | 10, v, w => True
  | 11, v, w => True
  | 12, v, w => True
  | 13, v, w => True
  | 14, v, w => True
  | 15, v, w => v = .bool false
  | 16, v, w => v = .bool false
  | 17, v, w => True
  | 18, v, w => True
  | 19, v, w => True
  | 20, v, w => True
  | 21, v, w => True
  | 22, v, w => True
  | 23, v, w => True
  | 24, v, w => True
  | 25, v, w => True
  | 26, v, w => True
  | 27, v, w => True
  | 28, v, w => True
  | 29, v, w => v = .bool false
  | 30, v, w => v = .bool false
  | _, _, _ => True
theorem SndA_st (W : World) (G : Nat) (size block k q gq : Int) (Ar Al Ap : Option Addr) (nr nl np cr cl cp : Nat) (RL : List UInt8) : ∀ i v w w', SndA W G size block k q gq Ar Al Ap nr nl np cr cl cp RL i v w → Below w.heap.size w w' → SndA W G size block k q gq Ar Al Ap nr nl np cr cl cp RL i v w'
  | 0, v, w, w', h, hb => h
  | 1, v, w, w', h, hb => h
  | 2, v, w, w', h, hb => h
  | 3, v, w, w', h, hb => h
  | 4, v, w, w', h, hb => h
  | 5, v, w, w', h, hb => h
  | 6, v, w, w', h, hb => h
  | 7, v, w, w', h, hb => h
  | 8, v, w, w', h, hb => h
  | 9, v, w, w', h, hb => trivial
  | 10, v, w, w', h, hb => trivial
  | 11, v, w, w', h, hb => trivial
  | 12, v, w, w', h, hb => trivial
  | 13, v, w, w', h, hb => trivial
  | 14, v, w, w', h, hb => trivial
  | 15, v, w, w', h, hb => h
  | 16, v, w, w', h, hb => h
  | 17, v, w, w', h, hb => trivial
  | 18, v, w, w', h, hb => trivial
  | 19, v, w, w', h, hb => trivial
  | 20, v, w, w', h, hb => trivial
  | 21, v, w, w', h, hb => trivial
  | 22, v, w, w', h, hb => trivial
  | 23, v, w, w', h, hb => trivial
  | 24, v, w, w', h, hb => trivial
  | 25, v, w, w', h, hb => trivial
  | 26, v, w, w', h, hb => trivial
  | 27, v, w, w', h, hb => trivial
  | 28, v, w, w', h, hb => trivial
  | 29, v, w, w', h, hb => h
  | 30, v, w, w', h, hb => h
  | _ + 31, _, _, _, _, _ => trivial
/-- What each slot of the region holds. -/
def SndB (W : World) (G : Nat) (size block k q gq : Int) (Ar Al Ap : Option Addr) (nr nl np cr cl cp : Nat) (RL : List UInt8) : Nat → Value → World → Prop
  | 0, v, w => v = .pointer (some ⟨G, 4, none⟩)
  | 1, v, w => v = .slice Al nl cl
  | 2, v, w => v = .pointer (some ⟨G, 0, none⟩)
  | 3, v, w => v = .int .i64 size
  | 4, v, w => v = .pointer (some ⟨G, 1, none⟩)
  | 5, v, w => v = .int .i64 block
  | 6, v, w => v = .int .i64 q
  | 7, v, w => v = .bool true
  | 8, v, w => v = .bool true
  | 9, v, w => v = .pointer (some ⟨G, 4, none⟩)
  | 10, v, w => v = .slice Al nl cl
  | 11, v, w => ∃ b, Sl bv 5 w b v RL
  | 12, v, w => v = .pointer (some ⟨G, 3, none⟩)
  | 13, v, w => v = .slice Ar nr cr
  | 14, v, w => v = .bool false
  | 15, v, w => v = .bool false
  | 16, v, w => v = .bool false
  | 17, v, w => True
  | 18, v, w => True
  | 19, v, w => True
  | 20, v, w => True
  | 21, v, w => True
  | 22, v, w => True
  | 23, v, w => True
  | 24, v, w => True
  | 25, v, w => True
  | 26, v, w => True
  | 27, v, w => True
  | 28, v, w => True
  | 29, v, w => v = .bool false
  | 30, v, w => v = .bool false
  | _, _, _ => True
theorem SndB_st (W : World) (G : Nat) (size block k q gq : Int) (Ar Al Ap : Option Addr) (nr nl np cr cl cp : Nat) (RL : List UInt8) : ∀ i v w w', SndB W G size block k q gq Ar Al Ap nr nl np cr cl cp RL i v w → Below w.heap.size w w' → SndB W G size block k q gq Ar Al Ap nr nl np cr cl cp RL i v w'
  | 0, v, w, w', h, hb => h
  | 1, v, w, w', h, hb => h
  | 2, v, w, w', h, hb => h
  | 3, v, w, w', h, hb => h
  | 4, v, w, w', h, hb => h
  | 5, v, w, w', h, hb => h
  | 6, v, w, w', h, hb => h
  | 7, v, w, w', h, hb => h
  | 8, v, w, w', h, hb => h
  | 9, v, w, w', h, hb => h
  | 10, v, w, w', h, hb => h
  | 11, v, w, w', h, hb => h.elim fun b h => ⟨b, Sl.below h hb⟩
  | 12, v, w, w', h, hb => h
  | 13, v, w, w', h, hb => h
  | 14, v, w, w', h, hb => h
  | 15, v, w, w', h, hb => h
  | 16, v, w, w', h, hb => h
  | 17, v, w, w', h, hb => trivial
  | 18, v, w, w', h, hb => trivial
  | 19, v, w, w', h, hb => trivial
  | 20, v, w, w', h, hb => trivial
  | 21, v, w, w', h, hb => trivial
  | 22, v, w, w', h, hb => trivial
  | 23, v, w, w', h, hb => trivial
  | 24, v, w, w', h, hb => trivial
  | 25, v, w, w', h, hb => trivial
  | 26, v, w, w', h, hb => trivial
  | 27, v, w, w', h, hb => trivial
  | 28, v, w, w', h, hb => trivial
  | 29, v, w, w', h, hb => h
  | 30, v, w, w', h, hb => h
  | _ + 31, _, _, _, _, _ => trivial
/-- What each slot of the region holds. -/
def SndC (W : World) (G : Nat) (size block k q gq : Int) (Ar Al Ap : Option Addr) (nr nl np cr cl cp : Nat) (RL : List UInt8) : Nat → Value → World → Prop
  | 0, v, w => v = .pointer (some ⟨G, 4, none⟩)
  | 1, v, w => v = .slice Al nl cl
  | 2, v, w => v = .pointer (some ⟨G, 0, none⟩)
  | 3, v, w => v = .int .i64 size
  | 4, v, w => v = .pointer (some ⟨G, 1, none⟩)
  | 5, v, w => v = .int .i64 block
  | 6, v, w => v = .int .i64 q
  | 7, v, w => v = .bool true
  | 8, v, w => v = .bool true
  | 9, v, w => v = .pointer (some ⟨G, 4, none⟩)
  | 10, v, w => v = .slice Al nl cl
  | 11, v, w => ∃ b, Sl bv 5 w b v RL
  | 12, v, w => v = .pointer (some ⟨G, 3, none⟩)
  | 13, v, w => v = .slice Ar nr cr
  | 14, v, w => v = .bool true
  | 15, v, w => v = .bool true
  | 16, v, w => v = .bool true
  | 17, v, w => v = .pointer (some ⟨G, 5, none⟩)
  | 18, v, w => v = .slice Ap np cp
  | 19, v, w => v = .pointer (some ⟨G, 0, none⟩)
  | 20, v, w => v = .int .i64 size
  | 21, v, w => v = .pointer (some ⟨G, 1, none⟩)
  | 22, v, w => v = .int .i64 block
  | 23, v, w => v = .pointer (some ⟨G, 2, none⟩)
  | 24, v, w => v = .int .i64 k
  | 25, v, w => v = .int .i64 gq
  | 26, v, w => v = .pointer (some ⟨G, 1, none⟩)
  | 27, v, w => v = .int .i64 block
  | 28, v, w => v = .bool false
  | 29, v, w => v = .bool false
  | 30, v, w => v = .bool false
  | _, _, _ => True
theorem SndC_st (W : World) (G : Nat) (size block k q gq : Int) (Ar Al Ap : Option Addr) (nr nl np cr cl cp : Nat) (RL : List UInt8) : ∀ i v w w', SndC W G size block k q gq Ar Al Ap nr nl np cr cl cp RL i v w → Below w.heap.size w w' → SndC W G size block k q gq Ar Al Ap nr nl np cr cl cp RL i v w'
  | 0, v, w, w', h, hb => h
  | 1, v, w, w', h, hb => h
  | 2, v, w, w', h, hb => h
  | 3, v, w, w', h, hb => h
  | 4, v, w, w', h, hb => h
  | 5, v, w, w', h, hb => h
  | 6, v, w, w', h, hb => h
  | 7, v, w, w', h, hb => h
  | 8, v, w, w', h, hb => h
  | 9, v, w, w', h, hb => h
  | 10, v, w, w', h, hb => h
  | 11, v, w, w', h, hb => h.elim fun b h => ⟨b, Sl.below h hb⟩
  | 12, v, w, w', h, hb => h
  | 13, v, w, w', h, hb => h
  | 14, v, w, w', h, hb => h
  | 15, v, w, w', h, hb => h
  | 16, v, w, w', h, hb => h
  | 17, v, w, w', h, hb => h
  | 18, v, w, w', h, hb => h
  | 19, v, w, w', h, hb => h
  | 20, v, w, w', h, hb => h
  | 21, v, w, w', h, hb => h
  | 22, v, w, w', h, hb => h
  | 23, v, w, w', h, hb => h
  | 24, v, w, w', h, hb => h
  | 25, v, w, w', h, hb => h
  | 26, v, w, w', h, hb => h
  | 27, v, w, w', h, hb => h
  | 28, v, w, w', h, hb => h
  | 29, v, w, w', h, hb => h
  | 30, v, w, w', h, hb => h
  | _ + 31, _, _, _, _, _ => trivial
/-- What each slot of the region holds. -/
def SndD (W : World) (G : Nat) (size block k q gq : Int) (Ar Al Ap : Option Addr) (nr nl np cr cl cp : Nat) (RL : List UInt8) : Nat → Value → World → Prop
  | 0, v, w => v = .pointer (some ⟨G, 4, none⟩)
  | 1, v, w => v = .slice Al nl cl
  | 2, v, w => v = .pointer (some ⟨G, 0, none⟩)
  | 3, v, w => v = .int .i64 size
  | 4, v, w => v = .pointer (some ⟨G, 1, none⟩)
  | 5, v, w => v = .int .i64 block
  | 6, v, w => v = .int .i64 q
  | 7, v, w => v = .bool true
  | 8, v, w => v = .bool true
  | 9, v, w => v = .pointer (some ⟨G, 4, none⟩)
  | 10, v, w => v = .slice Al nl cl
  | 11, v, w => ∃ b, Sl bv 5 w b v RL
  | 12, v, w => v = .pointer (some ⟨G, 3, none⟩)
  | 13, v, w => v = .slice Ar nr cr
  | 14, v, w => v = .bool true
  | 15, v, w => v = .bool true
  | 16, v, w => v = .bool true
  | 17, v, w => v = .pointer (some ⟨G, 5, none⟩)
  | 18, v, w => v = .slice Ap np cp
  | 19, v, w => v = .pointer (some ⟨G, 0, none⟩)
  | 20, v, w => v = .int .i64 size
  | 21, v, w => v = .pointer (some ⟨G, 1, none⟩)
  | 22, v, w => v = .int .i64 block
  | 23, v, w => v = .pointer (some ⟨G, 2, none⟩)
  | 24, v, w => v = .int .i64 k
  | 25, v, w => v = .int .i64 gq
  | 26, v, w => v = .pointer (some ⟨G, 1, none⟩)
  | 27, v, w => v = .int .i64 block
  | 28, v, w => v = .bool true
  | 29, v, w => v = .bool true
  | 30, v, w => v = .bool true
  | _, _, _ => True
theorem SndD_st (W : World) (G : Nat) (size block k q gq : Int) (Ar Al Ap : Option Addr) (nr nl np cr cl cp : Nat) (RL : List UInt8) : ∀ i v w w', SndD W G size block k q gq Ar Al Ap nr nl np cr cl cp RL i v w → Below w.heap.size w w' → SndD W G size block k q gq Ar Al Ap nr nl np cr cl cp RL i v w'
  | 0, v, w, w', h, hb => h
  | 1, v, w, w', h, hb => h
  | 2, v, w, w', h, hb => h
  | 3, v, w, w', h, hb => h
  | 4, v, w, w', h, hb => h
  | 5, v, w, w', h, hb => h
  | 6, v, w, w', h, hb => h
  | 7, v, w, w', h, hb => h
  | 8, v, w, w', h, hb => h
  | 9, v, w, w', h, hb => h
  | 10, v, w, w', h, hb => h
  | 11, v, w, w', h, hb => h.elim fun b h => ⟨b, Sl.below h hb⟩
  | 12, v, w, w', h, hb => h
  | 13, v, w, w', h, hb => h
  | 14, v, w, w', h, hb => h
  | 15, v, w, w', h, hb => h
  | 16, v, w, w', h, hb => h
  | 17, v, w, w', h, hb => h
  | 18, v, w, w', h, hb => h
  | 19, v, w, w', h, hb => h
  | 20, v, w, w', h, hb => h
  | 21, v, w, w', h, hb => h
  | 22, v, w, w', h, hb => h
  | 23, v, w, w', h, hb => h
  | 24, v, w, w', h, hb => h
  | 25, v, w, w', h, hb => h
  | 26, v, w, w', h, hb => h
  | 27, v, w, w', h, hb => h
  | 28, v, w, w', h, hb => h
  | 29, v, w, w', h, hb => h
  | 30, v, w, w', h, hb => h
  | _ + 31, _, _, _, _, _ => trivial
end
set_option maxHeartbeats 8000000 in
set_option maxRecDepth 100000 in
theorem sound_calls {vr vl vp : Value} {root : List UInt8} {leaves par : List (List UInt8)} (size block k : Int) (w : World) (h : SideR w vr vl vp root leaves par)
    (hs : -9223372036854775808 ≤ size ∧ size ≤ 9223372036854775807) (hb : -9223372036854775808 ≤ block ∧ block ≤ 9223372036854775807) (hf : leaves.length ≤ 1000000000) :
    Calls Try.prog 10 #[.agg #[.int .i64 size, .int .i64 block, .int .i64 k, vr, vl, vp]] w fun e w' => e = .returned (.bool (soundB size block k root leaves par)) ∧ Below w.heap.size w w' := by
  obtain ⟨⟨br, hr⟩, ⟨bl, hl⟩, ⟨bp, hp⟩⟩ := h
  have HR := Aside0.mk hr
  have HL := Aside0.mk hl
  have HP := Aside0.mk hp
  have HF := Aside0.mk hf
  obtain ⟨Ar, cr, rfl, _, _, _⟩ := hr
  obtain ⟨Al, cl, rfl, _, _⟩ := hl.shape
  obtain ⟨Ap, cp, rfl, _, _⟩ := hp.shape
  obtain ⟨nr, hnr⟩ : ∃ n, root.length = n := ⟨_, rfl⟩
  obtain ⟨nl, hnl⟩ : ∃ n, leaves.length = n := ⟨_, rfl⟩
  obtain ⟨np, hnp⟩ : ∃ n, par.length = n := ⟨_, rfl⟩
  rw [hnr] at HR ⊢
  rw [hnl] at HL ⊢
  rw [hnp] at HP ⊢
  clear hl hp hf hnr hnl hnp
  rcases hm : mayS size block k with _ | _
  · have HM := Aside0.mk hm
    have HE : Aside0 (soundB size block k root leaves par = false) := ⟨by simp only [soundB, hm, Bool.false_and]⟩
    rw [HE.out]
    clear hm
    go_enter Try.func10, Try.ntmps10
    go_wp2_with fail
    refine (smay_calls _ _ _ _).mono ?_
    rintro e w' ⟨rfl, rfl⟩
    rw [HM.out]
    go_wp2_with fail
    go_ret
    exact ⟨rfl, (Below.refl _ _).alloc (Nat.le_refl _) _⟩
  · have HM := Aside0.mk hm
    have HS := Aside0.mk hs
    have HBB := Aside0.mk hb
    obtain ⟨q, hq⟩ : ∃ q, cnt size block = q := ⟨_, rfl⟩
    obtain ⟨gq, hgq⟩ : ∃ gq, grp size block k = gq := ⟨_, rfl⟩
    have HQ := Aside0.mk hq
    have HGQ := Aside0.mk hgq
    obtain ⟨o, ho⟩ : ∃ o, soundB size block k root leaves par = o := ⟨_, rfl⟩
    have HO : Aside0 (o = (longB leaves q 32 && ((rootL leaves == root) && longB par gq block))) := ⟨by rw [← ho, ← hq, ← hgq]; simp only [soundB, hm, Bool.true_and]⟩
    rw [ho]
    obtain ⟨RL, hRL⟩ : ∃ RL, rootL leaves = RL := ⟨_, rfl⟩
    rw [hRL] at HO
    have HRL := Aside0.mk hRL
    clear hs hb hq hgq ho hm hRL
    go_enter Try.func10, Try.ntmps10
    go_wp2_with fail
    refine (smay_calls _ _ _ _).mono ?_
    rintro e w' ⟨rfl, rfl⟩
    rw [HM.out]
    go_wp2_with fail
    have HB1 := Aside0.mk (show Below w.heap.size w (w.alloc (.cells #[.int .i64 size, .int .i64 block, .int .i64 k, .slice Ar nr cr, .slice Al nl cl, .slice Ap np cp] 26)) from (Below.refl _ _).alloc (Nat.le_refl _) _)
    have HG := Aside0.mk (show (w.alloc (.cells #[.int .i64 size, .int .i64 block, .int .i64 k, .slice Ar nr cr, .slice Al nl cl, .slice Ap np cp] 26)).heap[w.heap.size]? = some (.cells #[.int .i64 size, .int .i64 block, .int .i64 k, .slice Ar nr cr, .slice Al nl cl, .slice Ap np cp] 26) from heap_new rfl)
    obtain ⟨W, hW⟩ : ∃ W, W = w.alloc (.cells #[.int .i64 size, .int .i64 block, .int .i64 k, .slice Ar nr cr, .slice Al nl cl, .slice Ap np cp] 26) := ⟨_, rfl⟩
    obtain ⟨G, hGG⟩ : ∃ G, G = w.heap.size := ⟨_, rfl⟩
    rw [← hW] at HB1 HG ⊢
    rw [← hGG] at HG ⊢
    rcases hl1 : longB leaves q 32 with _ | _
    · have HL1 := Aside0.mk hl1
      obtain rfl : o = false := by rw [HO.out, hl1]; rfl
      clear hl1 hW
      refine wp_region_flowA (SndA W G size block k q gq Ar Al Ap nr nl np cr cl cp RL) (by kernel_rfl) (by kernel_rfl) (SndA_st _ _ _ _ _ _ _ _ _ _ _ _ _ _ _ _ _) ?_ ?_
      · intro i o ho aa w' F
        have hlow := F.low
        match i, ho with
        | 0, ho =>
          obtain rfl := Option.some.inj ho
          refine flow_plain rfl rfl ?_
          have f1 : aa.tmps.getD 1 undef = .pointer (some ⟨G, 0, none⟩) := eval_out F 1 (by kernel_rfl) _ rfl
          refine op_pure (.pointer (some ⟨G, 4, none⟩)) ?_ ⟨_, rfl, Below.refl _ _, rfl⟩
          simp [execOp, Act.eval, go_sem, f1]
        | 1, ho =>
          obtain rfl := Option.some.inj ho
          refine flow_plain rfl rfl ?_
          have f11 : (aa.tmps.getD 11 undef) = .pointer (some ⟨G, 4, none⟩) := F.of 0 (by kernel_rfl)
          have hc := (blk (below_heap hlow HG.out)).1
          refine op_pure (.slice Al nl cl) ?_ ⟨_, rfl, Below.refl _ _, rfl⟩
          simp [execOp, Act.eval, go_sem, f11, hc]
        | 2, ho =>
          obtain rfl := Option.some.inj ho
          refine flow_plain rfl rfl ?_
          have f1 : aa.tmps.getD 1 undef = .pointer (some ⟨G, 0, none⟩) := eval_out F 1 (by kernel_rfl) _ rfl
          refine op_pure (.pointer (some ⟨G, 0, none⟩)) ?_ ⟨_, rfl, Below.refl _ _, rfl⟩
          simp [execOp, Act.eval, go_sem, f1]
        | 3, ho =>
          obtain rfl := Option.some.inj ho
          refine flow_plain rfl rfl ?_
          have f13 : (aa.tmps.getD 13 undef) = .pointer (some ⟨G, 0, none⟩) := F.of 2 (by kernel_rfl)
          have hc := (blk (below_heap hlow HG.out)).1
          refine op_pure (.int .i64 size) ?_ ⟨_, rfl, Below.refl _ _, rfl⟩
          simp [execOp, Act.eval, go_sem, f13, hc]
        | 4, ho =>
          obtain rfl := Option.some.inj ho
          refine flow_plain rfl rfl ?_
          have f1 : aa.tmps.getD 1 undef = .pointer (some ⟨G, 0, none⟩) := eval_out F 1 (by kernel_rfl) _ rfl
          refine op_pure (.pointer (some ⟨G, 1, none⟩)) ?_ ⟨_, rfl, Below.refl _ _, rfl⟩
          simp [execOp, Act.eval, go_sem, f1]
        | 5, ho =>
          obtain rfl := Option.some.inj ho
          refine flow_plain rfl rfl ?_
          have f15 : (aa.tmps.getD 15 undef) = .pointer (some ⟨G, 1, none⟩) := F.of 4 (by kernel_rfl)
          have hc := (blk (below_heap hlow HG.out)).1
          refine op_pure (.int .i64 block) ?_ ⟨_, rfl, Below.refl _ _, rfl⟩
          simp [execOp, Act.eval, go_sem, f15, hc]
        | 6, ho =>
          obtain rfl := Option.some.inj ho
          refine flow_plain rfl rfl ?_
          have f14 : (aa.tmps.getD 14 undef) = .int .i64 size := F.of 3 (by kernel_rfl)
          have f16 : (aa.tmps.getD 16 undef) = .int .i64 block := F.of 5 (by kernel_rfl)
          refine op_call 29 #[.tmp 14, .tmp 16] #[3, 3] rfl _ rfl rfl rfl #[.int .i64 size, .int .i64 block] (by simp [Act.eval, f14, f16]) ?_
          refine (count_calls _ _ _ HS.out HBB.out).mono ?_
          rintro e w7 ⟨rfl, rfl⟩
          exact ⟨_, rfl, _, rfl, Below.refl _ _, by rw [HQ.out]; rfl⟩
        | 7, ho =>
          obtain rfl := Option.some.inj ho
          refine flow_plain rfl rfl ?_
          have f12 : (aa.tmps.getD 12 undef) = .slice Al nl cl := F.of 1 (by kernel_rfl)
          have f17 : (aa.tmps.getD 17 undef) = .int .i64 q := F.of 6 (by kernel_rfl)
          refine op_call 28 #[.tmp 12, .tmp 17, .const (.int .i64 32)] #[24, 3, 3] rfl _ rfl rfl rfl #[.slice Al nl cl, .int .i64 q, (.int .i64 32)] (by simp [Act.eval, f12, f17]) ?_
          refine (long_calls _ _ _ (HL.out.below (below_step HB1.out hlow))).mono ?_
          rintro e w7 ⟨rfl, hb7⟩
          exact ⟨_, rfl, _, rfl, hb7, by rw [HL1.out]; rfl⟩
        | 8, ho =>
          obtain rfl := Option.some.inj ho
          refine flow_plain rfl rfl ?_
          have f18 : (aa.tmps.getD 18 undef) = .bool false := F.of 7 (by kernel_rfl)
          exact op_move (.tmp 18) rfl ⟨_, rfl, Below.refl _ _, f18⟩
        | 9, ho =>
          obtain rfl := Option.some.inj ho
          have hg : aa.tmps.getD 19 undef = .bool false := F.of 8 (by kernel_rfl)
          exact flow_no rfl rfl 19 rfl hg ⟨_, rfl, Below.refl _ _, trivial⟩
        | 10, ho =>
          obtain rfl := Option.some.inj ho
          have hg : aa.tmps.getD 19 undef = .bool false := F.of 8 (by kernel_rfl)
          exact flow_no rfl rfl 19 rfl hg ⟨_, rfl, Below.refl _ _, trivial⟩
        | 11, ho =>
          obtain rfl := Option.some.inj ho
          have hg : aa.tmps.getD 19 undef = .bool false := F.of 8 (by kernel_rfl)
          exact flow_no rfl rfl 19 rfl hg ⟨_, rfl, Below.refl _ _, trivial⟩
        | 12, ho =>
          obtain rfl := Option.some.inj ho
          have hg : aa.tmps.getD 19 undef = .bool false := F.of 8 (by kernel_rfl)
          exact flow_no rfl rfl 19 rfl hg ⟨_, rfl, Below.refl _ _, trivial⟩
        | 13, ho =>
          obtain rfl := Option.some.inj ho
          have hg : aa.tmps.getD 19 undef = .bool false := F.of 8 (by kernel_rfl)
          exact flow_no rfl rfl 19 rfl hg ⟨_, rfl, Below.refl _ _, trivial⟩
        | 14, ho =>
          obtain rfl := Option.some.inj ho
          have hg : aa.tmps.getD 19 undef = .bool false := F.of 8 (by kernel_rfl)
          exact flow_no rfl rfl 19 rfl hg ⟨_, rfl, Below.refl _ _, trivial⟩
        | 15, ho =>
          obtain rfl := Option.some.inj ho
          refine flow_plain rfl rfl ?_
          have f19 : (aa.tmps.getD 19 undef) = .bool false := F.of 8 (by kernel_rfl)
          have f25 : True := F.of 14 (by kernel_rfl)
          refine op_pure (.bool false) ?_ ⟨_, rfl, Below.refl _ _, rfl⟩
          simp [execOp, Act.eval, go_sem, f19]
        | 16, ho =>
          obtain rfl := Option.some.inj ho
          refine flow_plain rfl rfl ?_
          have f26 : (aa.tmps.getD 26 undef) = .bool false := F.of 15 (by kernel_rfl)
          exact op_move (.tmp 26) rfl ⟨_, rfl, Below.refl _ _, f26⟩
        | 17, ho =>
          obtain rfl := Option.some.inj ho
          have hg : aa.tmps.getD 27 undef = .bool false := F.of 16 (by kernel_rfl)
          exact flow_no rfl rfl 27 rfl hg ⟨_, rfl, Below.refl _ _, trivial⟩
        | 18, ho =>
          obtain rfl := Option.some.inj ho
          have hg : aa.tmps.getD 27 undef = .bool false := F.of 16 (by kernel_rfl)
          exact flow_no rfl rfl 27 rfl hg ⟨_, rfl, Below.refl _ _, trivial⟩
        | 19, ho =>
          obtain rfl := Option.some.inj ho
          have hg : aa.tmps.getD 27 undef = .bool false := F.of 16 (by kernel_rfl)
          exact flow_no rfl rfl 27 rfl hg ⟨_, rfl, Below.refl _ _, trivial⟩
        | 20, ho =>
          obtain rfl := Option.some.inj ho
          have hg : aa.tmps.getD 27 undef = .bool false := F.of 16 (by kernel_rfl)
          exact flow_no rfl rfl 27 rfl hg ⟨_, rfl, Below.refl _ _, trivial⟩
        | 21, ho =>
          obtain rfl := Option.some.inj ho
          have hg : aa.tmps.getD 27 undef = .bool false := F.of 16 (by kernel_rfl)
          exact flow_no rfl rfl 27 rfl hg ⟨_, rfl, Below.refl _ _, trivial⟩
        | 22, ho =>
          obtain rfl := Option.some.inj ho
          have hg : aa.tmps.getD 27 undef = .bool false := F.of 16 (by kernel_rfl)
          exact flow_no rfl rfl 27 rfl hg ⟨_, rfl, Below.refl _ _, trivial⟩
        | 23, ho =>
          obtain rfl := Option.some.inj ho
          have hg : aa.tmps.getD 27 undef = .bool false := F.of 16 (by kernel_rfl)
          exact flow_no rfl rfl 27 rfl hg ⟨_, rfl, Below.refl _ _, trivial⟩
        | 24, ho =>
          obtain rfl := Option.some.inj ho
          have hg : aa.tmps.getD 27 undef = .bool false := F.of 16 (by kernel_rfl)
          exact flow_no rfl rfl 27 rfl hg ⟨_, rfl, Below.refl _ _, trivial⟩
        | 25, ho =>
          obtain rfl := Option.some.inj ho
          have hg : aa.tmps.getD 27 undef = .bool false := F.of 16 (by kernel_rfl)
          exact flow_no rfl rfl 27 rfl hg ⟨_, rfl, Below.refl _ _, trivial⟩
        | 26, ho =>
          obtain rfl := Option.some.inj ho
          have hg : aa.tmps.getD 27 undef = .bool false := F.of 16 (by kernel_rfl)
          exact flow_no rfl rfl 27 rfl hg ⟨_, rfl, Below.refl _ _, trivial⟩
        | 27, ho =>
          obtain rfl := Option.some.inj ho
          have hg : aa.tmps.getD 27 undef = .bool false := F.of 16 (by kernel_rfl)
          exact flow_no rfl rfl 27 rfl hg ⟨_, rfl, Below.refl _ _, trivial⟩
        | 28, ho =>
          obtain rfl := Option.some.inj ho
          have hg : aa.tmps.getD 27 undef = .bool false := F.of 16 (by kernel_rfl)
          exact flow_no rfl rfl 27 rfl hg ⟨_, rfl, Below.refl _ _, trivial⟩
        | 29, ho =>
          obtain rfl := Option.some.inj ho
          refine flow_plain rfl rfl ?_
          have f27 : (aa.tmps.getD 27 undef) = .bool false := F.of 16 (by kernel_rfl)
          have f39 : True := F.of 28 (by kernel_rfl)
          refine op_pure (.bool false) ?_ ⟨_, rfl, Below.refl _ _, rfl⟩
          simp [execOp, Act.eval, go_sem, f27]
        | 30, ho =>
          obtain rfl := Option.some.inj ho
          refine flow_plain rfl rfl ?_
          have f40 : (aa.tmps.getD 40 undef) = .bool false := F.of 29 (by kernel_rfl)
          exact op_assign (.tmp 40) rfl ⟨_, rfl, Below.refl _ _, f40⟩
        | j + 31, ho => exact absurd (Array.getElem?_eq_some_iff.1 ho).1 (by simp)
      · intro a' w' htsz hdfs hsame hlow hgot
        have h2 : a'.tmps.getD 2 undef = .bool false := hgot 30 (by simp)
        have hB := Aside0.mk (below_step HB1.out hlow)
        clear hgot hlow hsame
        go_wp2_with fail
        exact bodyPost_ret (results_tmp rfl _ _ _) hdfs ⟨by rw [h2], hB.out⟩
    · have HL1 := Aside0.mk hl1
      rcases hreq : (RL == root) with _ | _
      · have HEQ := Aside0.mk hreq
        obtain rfl : o = false := by rw [HO.out, hl1, hreq]; rfl
        clear hl1 hreq hW
        refine wp_region_flowA (SndB W G size block k q gq Ar Al Ap nr nl np cr cl cp RL) (by kernel_rfl) (by kernel_rfl) (SndB_st _ _ _ _ _ _ _ _ _ _ _ _ _ _ _ _ _) ?_ ?_
        · intro i o ho aa w' F
          have hlow := F.low
          match i, ho with
          | 0, ho =>
            obtain rfl := Option.some.inj ho
            refine flow_plain rfl rfl ?_
            have f1 : aa.tmps.getD 1 undef = .pointer (some ⟨G, 0, none⟩) := eval_out F 1 (by kernel_rfl) _ rfl
            refine op_pure (.pointer (some ⟨G, 4, none⟩)) ?_ ⟨_, rfl, Below.refl _ _, rfl⟩
            simp [execOp, Act.eval, go_sem, f1]
          | 1, ho =>
            obtain rfl := Option.some.inj ho
            refine flow_plain rfl rfl ?_
            have f11 : (aa.tmps.getD 11 undef) = .pointer (some ⟨G, 4, none⟩) := F.of 0 (by kernel_rfl)
            have hc := (blk (below_heap hlow HG.out)).1
            refine op_pure (.slice Al nl cl) ?_ ⟨_, rfl, Below.refl _ _, rfl⟩
            simp [execOp, Act.eval, go_sem, f11, hc]
          | 2, ho =>
            obtain rfl := Option.some.inj ho
            refine flow_plain rfl rfl ?_
            have f1 : aa.tmps.getD 1 undef = .pointer (some ⟨G, 0, none⟩) := eval_out F 1 (by kernel_rfl) _ rfl
            refine op_pure (.pointer (some ⟨G, 0, none⟩)) ?_ ⟨_, rfl, Below.refl _ _, rfl⟩
            simp [execOp, Act.eval, go_sem, f1]
          | 3, ho =>
            obtain rfl := Option.some.inj ho
            refine flow_plain rfl rfl ?_
            have f13 : (aa.tmps.getD 13 undef) = .pointer (some ⟨G, 0, none⟩) := F.of 2 (by kernel_rfl)
            have hc := (blk (below_heap hlow HG.out)).1
            refine op_pure (.int .i64 size) ?_ ⟨_, rfl, Below.refl _ _, rfl⟩
            simp [execOp, Act.eval, go_sem, f13, hc]
          | 4, ho =>
            obtain rfl := Option.some.inj ho
            refine flow_plain rfl rfl ?_
            have f1 : aa.tmps.getD 1 undef = .pointer (some ⟨G, 0, none⟩) := eval_out F 1 (by kernel_rfl) _ rfl
            refine op_pure (.pointer (some ⟨G, 1, none⟩)) ?_ ⟨_, rfl, Below.refl _ _, rfl⟩
            simp [execOp, Act.eval, go_sem, f1]
          | 5, ho =>
            obtain rfl := Option.some.inj ho
            refine flow_plain rfl rfl ?_
            have f15 : (aa.tmps.getD 15 undef) = .pointer (some ⟨G, 1, none⟩) := F.of 4 (by kernel_rfl)
            have hc := (blk (below_heap hlow HG.out)).1
            refine op_pure (.int .i64 block) ?_ ⟨_, rfl, Below.refl _ _, rfl⟩
            simp [execOp, Act.eval, go_sem, f15, hc]
          | 6, ho =>
            obtain rfl := Option.some.inj ho
            refine flow_plain rfl rfl ?_
            have f14 : (aa.tmps.getD 14 undef) = .int .i64 size := F.of 3 (by kernel_rfl)
            have f16 : (aa.tmps.getD 16 undef) = .int .i64 block := F.of 5 (by kernel_rfl)
            refine op_call 29 #[.tmp 14, .tmp 16] #[3, 3] rfl _ rfl rfl rfl #[.int .i64 size, .int .i64 block] (by simp [Act.eval, f14, f16]) ?_
            refine (count_calls _ _ _ HS.out HBB.out).mono ?_
            rintro e w7 ⟨rfl, rfl⟩
            exact ⟨_, rfl, _, rfl, Below.refl _ _, by rw [HQ.out]; rfl⟩
          | 7, ho =>
            obtain rfl := Option.some.inj ho
            refine flow_plain rfl rfl ?_
            have f12 : (aa.tmps.getD 12 undef) = .slice Al nl cl := F.of 1 (by kernel_rfl)
            have f17 : (aa.tmps.getD 17 undef) = .int .i64 q := F.of 6 (by kernel_rfl)
            refine op_call 28 #[.tmp 12, .tmp 17, .const (.int .i64 32)] #[24, 3, 3] rfl _ rfl rfl rfl #[.slice Al nl cl, .int .i64 q, (.int .i64 32)] (by simp [Act.eval, f12, f17]) ?_
            refine (long_calls _ _ _ (HL.out.below (below_step HB1.out hlow))).mono ?_
            rintro e w7 ⟨rfl, hb7⟩
            exact ⟨_, rfl, _, rfl, hb7, by rw [HL1.out]; rfl⟩
          | 8, ho =>
            obtain rfl := Option.some.inj ho
            refine flow_plain rfl rfl ?_
            have f18 : (aa.tmps.getD 18 undef) = .bool true := F.of 7 (by kernel_rfl)
            exact op_move (.tmp 18) rfl ⟨_, rfl, Below.refl _ _, f18⟩
          | 9, ho =>
            obtain rfl := Option.some.inj ho
            have hg : aa.tmps.getD 19 undef = .bool true := F.of 8 (by kernel_rfl)
            refine flow_yes rfl rfl 19 rfl hg ?_
            have f1 : aa.tmps.getD 1 undef = .pointer (some ⟨G, 0, none⟩) := eval_out F 1 (by kernel_rfl) _ rfl
            refine op_pure (.pointer (some ⟨G, 4, none⟩)) ?_ ⟨_, rfl, Below.refl _ _, rfl⟩
            simp [execOp, Act.eval, go_sem, f1]
          | 10, ho =>
            obtain rfl := Option.some.inj ho
            have hg : aa.tmps.getD 19 undef = .bool true := F.of 8 (by kernel_rfl)
            refine flow_yes rfl rfl 19 rfl hg ?_
            have f20 : (aa.tmps.getD 20 undef) = .pointer (some ⟨G, 4, none⟩) := F.of 9 (by kernel_rfl)
            have hc := (blk (below_heap hlow HG.out)).1
            refine op_pure (.slice Al nl cl) ?_ ⟨_, rfl, Below.refl _ _, rfl⟩
            simp [execOp, Act.eval, go_sem, f20, hc]
          | 11, ho =>
            obtain rfl := Option.some.inj ho
            have hg : aa.tmps.getD 19 undef = .bool true := F.of 8 (by kernel_rfl)
            refine flow_yes rfl rfl 19 rfl hg ?_
            have f21 : (aa.tmps.getD 21 undef) = .slice Al nl cl := F.of 10 (by kernel_rfl)
            refine op_call 22 #[.tmp 21] #[24] rfl _ rfl rfl rfl #[.slice Al nl cl] (by simp [Act.eval, f21]) ?_
            refine (root_calls _ (HL.out.below (below_step HB1.out hlow)) (FitM.of_long HL1.out HF.out)).mono ?_
            rintro e w7 ⟨v7, rfl, hs7, hb7⟩
            rw [HRL.out] at hs7
            exact ⟨_, rfl, _, rfl, hb7, _, hs7⟩
          | 12, ho =>
            obtain rfl := Option.some.inj ho
            have hg : aa.tmps.getD 19 undef = .bool true := F.of 8 (by kernel_rfl)
            refine flow_yes rfl rfl 19 rfl hg ?_
            have f1 : aa.tmps.getD 1 undef = .pointer (some ⟨G, 0, none⟩) := eval_out F 1 (by kernel_rfl) _ rfl
            refine op_pure (.pointer (some ⟨G, 3, none⟩)) ?_ ⟨_, rfl, Below.refl _ _, rfl⟩
            simp [execOp, Act.eval, go_sem, f1]
          | 13, ho =>
            obtain rfl := Option.some.inj ho
            have hg : aa.tmps.getD 19 undef = .bool true := F.of 8 (by kernel_rfl)
            refine flow_yes rfl rfl 19 rfl hg ?_
            have f23 : (aa.tmps.getD 23 undef) = .pointer (some ⟨G, 3, none⟩) := F.of 12 (by kernel_rfl)
            have hc := (blk (below_heap hlow HG.out)).1
            refine op_pure (.slice Ar nr cr) ?_ ⟨_, rfl, Below.refl _ _, rfl⟩
            simp [execOp, Act.eval, go_sem, f23, hc]
          | 14, ho =>
            obtain rfl := Option.some.inj ho
            have hg : aa.tmps.getD 19 undef = .bool true := F.of 8 (by kernel_rfl)
            refine flow_yes rfl rfl 19 rfl hg ?_
            have f22 : ∃ b, Sl bv 5 w' b (aa.tmps.getD 22 undef) RL := F.of 11 (by kernel_rfl)
            have f24 : (aa.tmps.getD 24 undef) = .slice Ar nr cr := F.of 13 (by kernel_rfl)
            refine op_call 30 #[.tmp 22, .tmp 24] #[22, 22] rfl _ rfl rfl rfl #[aa.tmps.getD 22 undef, .slice Ar nr cr] (by simp [Act.eval, f24]) ?_
            obtain ⟨bb, f22⟩ := f22
            refine (equal_calls _ f22 (HR.out.below (below_step HB1.out hlow))).mono ?_
            rintro e w7 ⟨rfl, rfl⟩
            exact ⟨_, rfl, _, rfl, Below.refl _ _, by rw [HEQ.out]; rfl⟩
          | 15, ho =>
            obtain rfl := Option.some.inj ho
            refine flow_plain rfl rfl ?_
            have f19 : (aa.tmps.getD 19 undef) = .bool true := F.of 8 (by kernel_rfl)
            have f25 : (aa.tmps.getD 25 undef) = .bool false := F.of 14 (by kernel_rfl)
            refine op_pure (.bool false) ?_ ⟨_, rfl, Below.refl _ _, rfl⟩
            simp [execOp, Act.eval, go_sem, f19, f25]
          | 16, ho =>
            obtain rfl := Option.some.inj ho
            refine flow_plain rfl rfl ?_
            have f26 : (aa.tmps.getD 26 undef) = .bool false := F.of 15 (by kernel_rfl)
            exact op_move (.tmp 26) rfl ⟨_, rfl, Below.refl _ _, f26⟩
          | 17, ho =>
            obtain rfl := Option.some.inj ho
            have hg : aa.tmps.getD 27 undef = .bool false := F.of 16 (by kernel_rfl)
            exact flow_no rfl rfl 27 rfl hg ⟨_, rfl, Below.refl _ _, trivial⟩
          | 18, ho =>
            obtain rfl := Option.some.inj ho
            have hg : aa.tmps.getD 27 undef = .bool false := F.of 16 (by kernel_rfl)
            exact flow_no rfl rfl 27 rfl hg ⟨_, rfl, Below.refl _ _, trivial⟩
          | 19, ho =>
            obtain rfl := Option.some.inj ho
            have hg : aa.tmps.getD 27 undef = .bool false := F.of 16 (by kernel_rfl)
            exact flow_no rfl rfl 27 rfl hg ⟨_, rfl, Below.refl _ _, trivial⟩
          | 20, ho =>
            obtain rfl := Option.some.inj ho
            have hg : aa.tmps.getD 27 undef = .bool false := F.of 16 (by kernel_rfl)
            exact flow_no rfl rfl 27 rfl hg ⟨_, rfl, Below.refl _ _, trivial⟩
          | 21, ho =>
            obtain rfl := Option.some.inj ho
            have hg : aa.tmps.getD 27 undef = .bool false := F.of 16 (by kernel_rfl)
            exact flow_no rfl rfl 27 rfl hg ⟨_, rfl, Below.refl _ _, trivial⟩
          | 22, ho =>
            obtain rfl := Option.some.inj ho
            have hg : aa.tmps.getD 27 undef = .bool false := F.of 16 (by kernel_rfl)
            exact flow_no rfl rfl 27 rfl hg ⟨_, rfl, Below.refl _ _, trivial⟩
          | 23, ho =>
            obtain rfl := Option.some.inj ho
            have hg : aa.tmps.getD 27 undef = .bool false := F.of 16 (by kernel_rfl)
            exact flow_no rfl rfl 27 rfl hg ⟨_, rfl, Below.refl _ _, trivial⟩
          | 24, ho =>
            obtain rfl := Option.some.inj ho
            have hg : aa.tmps.getD 27 undef = .bool false := F.of 16 (by kernel_rfl)
            exact flow_no rfl rfl 27 rfl hg ⟨_, rfl, Below.refl _ _, trivial⟩
          | 25, ho =>
            obtain rfl := Option.some.inj ho
            have hg : aa.tmps.getD 27 undef = .bool false := F.of 16 (by kernel_rfl)
            exact flow_no rfl rfl 27 rfl hg ⟨_, rfl, Below.refl _ _, trivial⟩
          | 26, ho =>
            obtain rfl := Option.some.inj ho
            have hg : aa.tmps.getD 27 undef = .bool false := F.of 16 (by kernel_rfl)
            exact flow_no rfl rfl 27 rfl hg ⟨_, rfl, Below.refl _ _, trivial⟩
          | 27, ho =>
            obtain rfl := Option.some.inj ho
            have hg : aa.tmps.getD 27 undef = .bool false := F.of 16 (by kernel_rfl)
            exact flow_no rfl rfl 27 rfl hg ⟨_, rfl, Below.refl _ _, trivial⟩
          | 28, ho =>
            obtain rfl := Option.some.inj ho
            have hg : aa.tmps.getD 27 undef = .bool false := F.of 16 (by kernel_rfl)
            exact flow_no rfl rfl 27 rfl hg ⟨_, rfl, Below.refl _ _, trivial⟩
          | 29, ho =>
            obtain rfl := Option.some.inj ho
            refine flow_plain rfl rfl ?_
            have f27 : (aa.tmps.getD 27 undef) = .bool false := F.of 16 (by kernel_rfl)
            have f39 : True := F.of 28 (by kernel_rfl)
            refine op_pure (.bool false) ?_ ⟨_, rfl, Below.refl _ _, rfl⟩
            simp [execOp, Act.eval, go_sem, f27]
          | 30, ho =>
            obtain rfl := Option.some.inj ho
            refine flow_plain rfl rfl ?_
            have f40 : (aa.tmps.getD 40 undef) = .bool false := F.of 29 (by kernel_rfl)
            exact op_assign (.tmp 40) rfl ⟨_, rfl, Below.refl _ _, f40⟩
          | j + 31, ho => exact absurd (Array.getElem?_eq_some_iff.1 ho).1 (by simp)
        · intro a' w' htsz hdfs hsame hlow hgot
          have h2 : a'.tmps.getD 2 undef = .bool false := hgot 30 (by simp)
          have hB := Aside0.mk (below_step HB1.out hlow)
          clear hgot hlow hsame
          go_wp2_with fail
          exact bodyPost_ret (results_tmp rfl _ _ _) hdfs ⟨by rw [h2], hB.out⟩
      · have HEQ := Aside0.mk hreq
        rcases hl2 : longB par gq block with _ | _
        · have HL2 := Aside0.mk hl2
          obtain rfl : o = false := by rw [HO.out, hl1, hreq, hl2]; rfl
          clear hl1 hreq hl2 hW
          refine wp_region_flowA (SndC W G size block k q gq Ar Al Ap nr nl np cr cl cp RL) (by kernel_rfl) (by kernel_rfl) (SndC_st _ _ _ _ _ _ _ _ _ _ _ _ _ _ _ _ _) ?_ ?_
          · intro i o ho aa w' F
            have hlow := F.low
            match i, ho with
            | 0, ho =>
              obtain rfl := Option.some.inj ho
              refine flow_plain rfl rfl ?_
              have f1 : aa.tmps.getD 1 undef = .pointer (some ⟨G, 0, none⟩) := eval_out F 1 (by kernel_rfl) _ rfl
              refine op_pure (.pointer (some ⟨G, 4, none⟩)) ?_ ⟨_, rfl, Below.refl _ _, rfl⟩
              simp [execOp, Act.eval, go_sem, f1]
            | 1, ho =>
              obtain rfl := Option.some.inj ho
              refine flow_plain rfl rfl ?_
              have f11 : (aa.tmps.getD 11 undef) = .pointer (some ⟨G, 4, none⟩) := F.of 0 (by kernel_rfl)
              have hc := (blk (below_heap hlow HG.out)).1
              refine op_pure (.slice Al nl cl) ?_ ⟨_, rfl, Below.refl _ _, rfl⟩
              simp [execOp, Act.eval, go_sem, f11, hc]
            | 2, ho =>
              obtain rfl := Option.some.inj ho
              refine flow_plain rfl rfl ?_
              have f1 : aa.tmps.getD 1 undef = .pointer (some ⟨G, 0, none⟩) := eval_out F 1 (by kernel_rfl) _ rfl
              refine op_pure (.pointer (some ⟨G, 0, none⟩)) ?_ ⟨_, rfl, Below.refl _ _, rfl⟩
              simp [execOp, Act.eval, go_sem, f1]
            | 3, ho =>
              obtain rfl := Option.some.inj ho
              refine flow_plain rfl rfl ?_
              have f13 : (aa.tmps.getD 13 undef) = .pointer (some ⟨G, 0, none⟩) := F.of 2 (by kernel_rfl)
              have hc := (blk (below_heap hlow HG.out)).1
              refine op_pure (.int .i64 size) ?_ ⟨_, rfl, Below.refl _ _, rfl⟩
              simp [execOp, Act.eval, go_sem, f13, hc]
            | 4, ho =>
              obtain rfl := Option.some.inj ho
              refine flow_plain rfl rfl ?_
              have f1 : aa.tmps.getD 1 undef = .pointer (some ⟨G, 0, none⟩) := eval_out F 1 (by kernel_rfl) _ rfl
              refine op_pure (.pointer (some ⟨G, 1, none⟩)) ?_ ⟨_, rfl, Below.refl _ _, rfl⟩
              simp [execOp, Act.eval, go_sem, f1]
            | 5, ho =>
              obtain rfl := Option.some.inj ho
              refine flow_plain rfl rfl ?_
              have f15 : (aa.tmps.getD 15 undef) = .pointer (some ⟨G, 1, none⟩) := F.of 4 (by kernel_rfl)
              have hc := (blk (below_heap hlow HG.out)).1
              refine op_pure (.int .i64 block) ?_ ⟨_, rfl, Below.refl _ _, rfl⟩
              simp [execOp, Act.eval, go_sem, f15, hc]
            | 6, ho =>
              obtain rfl := Option.some.inj ho
              refine flow_plain rfl rfl ?_
              have f14 : (aa.tmps.getD 14 undef) = .int .i64 size := F.of 3 (by kernel_rfl)
              have f16 : (aa.tmps.getD 16 undef) = .int .i64 block := F.of 5 (by kernel_rfl)
              refine op_call 29 #[.tmp 14, .tmp 16] #[3, 3] rfl _ rfl rfl rfl #[.int .i64 size, .int .i64 block] (by simp [Act.eval, f14, f16]) ?_
              refine (count_calls _ _ _ HS.out HBB.out).mono ?_
              rintro e w7 ⟨rfl, rfl⟩
              exact ⟨_, rfl, _, rfl, Below.refl _ _, by rw [HQ.out]; rfl⟩
            | 7, ho =>
              obtain rfl := Option.some.inj ho
              refine flow_plain rfl rfl ?_
              have f12 : (aa.tmps.getD 12 undef) = .slice Al nl cl := F.of 1 (by kernel_rfl)
              have f17 : (aa.tmps.getD 17 undef) = .int .i64 q := F.of 6 (by kernel_rfl)
              refine op_call 28 #[.tmp 12, .tmp 17, .const (.int .i64 32)] #[24, 3, 3] rfl _ rfl rfl rfl #[.slice Al nl cl, .int .i64 q, (.int .i64 32)] (by simp [Act.eval, f12, f17]) ?_
              refine (long_calls _ _ _ (HL.out.below (below_step HB1.out hlow))).mono ?_
              rintro e w7 ⟨rfl, hb7⟩
              exact ⟨_, rfl, _, rfl, hb7, by rw [HL1.out]; rfl⟩
            | 8, ho =>
              obtain rfl := Option.some.inj ho
              refine flow_plain rfl rfl ?_
              have f18 : (aa.tmps.getD 18 undef) = .bool true := F.of 7 (by kernel_rfl)
              exact op_move (.tmp 18) rfl ⟨_, rfl, Below.refl _ _, f18⟩
            | 9, ho =>
              obtain rfl := Option.some.inj ho
              have hg : aa.tmps.getD 19 undef = .bool true := F.of 8 (by kernel_rfl)
              refine flow_yes rfl rfl 19 rfl hg ?_
              have f1 : aa.tmps.getD 1 undef = .pointer (some ⟨G, 0, none⟩) := eval_out F 1 (by kernel_rfl) _ rfl
              refine op_pure (.pointer (some ⟨G, 4, none⟩)) ?_ ⟨_, rfl, Below.refl _ _, rfl⟩
              simp [execOp, Act.eval, go_sem, f1]
            | 10, ho =>
              obtain rfl := Option.some.inj ho
              have hg : aa.tmps.getD 19 undef = .bool true := F.of 8 (by kernel_rfl)
              refine flow_yes rfl rfl 19 rfl hg ?_
              have f20 : (aa.tmps.getD 20 undef) = .pointer (some ⟨G, 4, none⟩) := F.of 9 (by kernel_rfl)
              have hc := (blk (below_heap hlow HG.out)).1
              refine op_pure (.slice Al nl cl) ?_ ⟨_, rfl, Below.refl _ _, rfl⟩
              simp [execOp, Act.eval, go_sem, f20, hc]
            | 11, ho =>
              obtain rfl := Option.some.inj ho
              have hg : aa.tmps.getD 19 undef = .bool true := F.of 8 (by kernel_rfl)
              refine flow_yes rfl rfl 19 rfl hg ?_
              have f21 : (aa.tmps.getD 21 undef) = .slice Al nl cl := F.of 10 (by kernel_rfl)
              refine op_call 22 #[.tmp 21] #[24] rfl _ rfl rfl rfl #[.slice Al nl cl] (by simp [Act.eval, f21]) ?_
              refine (root_calls _ (HL.out.below (below_step HB1.out hlow)) (FitM.of_long HL1.out HF.out)).mono ?_
              rintro e w7 ⟨v7, rfl, hs7, hb7⟩
              rw [HRL.out] at hs7
              exact ⟨_, rfl, _, rfl, hb7, _, hs7⟩
            | 12, ho =>
              obtain rfl := Option.some.inj ho
              have hg : aa.tmps.getD 19 undef = .bool true := F.of 8 (by kernel_rfl)
              refine flow_yes rfl rfl 19 rfl hg ?_
              have f1 : aa.tmps.getD 1 undef = .pointer (some ⟨G, 0, none⟩) := eval_out F 1 (by kernel_rfl) _ rfl
              refine op_pure (.pointer (some ⟨G, 3, none⟩)) ?_ ⟨_, rfl, Below.refl _ _, rfl⟩
              simp [execOp, Act.eval, go_sem, f1]
            | 13, ho =>
              obtain rfl := Option.some.inj ho
              have hg : aa.tmps.getD 19 undef = .bool true := F.of 8 (by kernel_rfl)
              refine flow_yes rfl rfl 19 rfl hg ?_
              have f23 : (aa.tmps.getD 23 undef) = .pointer (some ⟨G, 3, none⟩) := F.of 12 (by kernel_rfl)
              have hc := (blk (below_heap hlow HG.out)).1
              refine op_pure (.slice Ar nr cr) ?_ ⟨_, rfl, Below.refl _ _, rfl⟩
              simp [execOp, Act.eval, go_sem, f23, hc]
            | 14, ho =>
              obtain rfl := Option.some.inj ho
              have hg : aa.tmps.getD 19 undef = .bool true := F.of 8 (by kernel_rfl)
              refine flow_yes rfl rfl 19 rfl hg ?_
              have f22 : ∃ b, Sl bv 5 w' b (aa.tmps.getD 22 undef) RL := F.of 11 (by kernel_rfl)
              have f24 : (aa.tmps.getD 24 undef) = .slice Ar nr cr := F.of 13 (by kernel_rfl)
              refine op_call 30 #[.tmp 22, .tmp 24] #[22, 22] rfl _ rfl rfl rfl #[aa.tmps.getD 22 undef, .slice Ar nr cr] (by simp [Act.eval, f24]) ?_
              obtain ⟨bb, f22⟩ := f22
              refine (equal_calls _ f22 (HR.out.below (below_step HB1.out hlow))).mono ?_
              rintro e w7 ⟨rfl, rfl⟩
              exact ⟨_, rfl, _, rfl, Below.refl _ _, by rw [HEQ.out]; rfl⟩
            | 15, ho =>
              obtain rfl := Option.some.inj ho
              refine flow_plain rfl rfl ?_
              have f19 : (aa.tmps.getD 19 undef) = .bool true := F.of 8 (by kernel_rfl)
              have f25 : (aa.tmps.getD 25 undef) = .bool true := F.of 14 (by kernel_rfl)
              refine op_pure (.bool true) ?_ ⟨_, rfl, Below.refl _ _, rfl⟩
              simp [execOp, Act.eval, go_sem, f19, f25]
            | 16, ho =>
              obtain rfl := Option.some.inj ho
              refine flow_plain rfl rfl ?_
              have f26 : (aa.tmps.getD 26 undef) = .bool true := F.of 15 (by kernel_rfl)
              exact op_move (.tmp 26) rfl ⟨_, rfl, Below.refl _ _, f26⟩
            | 17, ho =>
              obtain rfl := Option.some.inj ho
              have hg : aa.tmps.getD 27 undef = .bool true := F.of 16 (by kernel_rfl)
              refine flow_yes rfl rfl 27 rfl hg ?_
              have f1 : aa.tmps.getD 1 undef = .pointer (some ⟨G, 0, none⟩) := eval_out F 1 (by kernel_rfl) _ rfl
              refine op_pure (.pointer (some ⟨G, 5, none⟩)) ?_ ⟨_, rfl, Below.refl _ _, rfl⟩
              simp [execOp, Act.eval, go_sem, f1]
            | 18, ho =>
              obtain rfl := Option.some.inj ho
              have hg : aa.tmps.getD 27 undef = .bool true := F.of 16 (by kernel_rfl)
              refine flow_yes rfl rfl 27 rfl hg ?_
              have f28 : (aa.tmps.getD 28 undef) = .pointer (some ⟨G, 5, none⟩) := F.of 17 (by kernel_rfl)
              have hc := (blk (below_heap hlow HG.out)).1
              refine op_pure (.slice Ap np cp) ?_ ⟨_, rfl, Below.refl _ _, rfl⟩
              simp [execOp, Act.eval, go_sem, f28, hc]
            | 19, ho =>
              obtain rfl := Option.some.inj ho
              have hg : aa.tmps.getD 27 undef = .bool true := F.of 16 (by kernel_rfl)
              refine flow_yes rfl rfl 27 rfl hg ?_
              have f1 : aa.tmps.getD 1 undef = .pointer (some ⟨G, 0, none⟩) := eval_out F 1 (by kernel_rfl) _ rfl
              refine op_pure (.pointer (some ⟨G, 0, none⟩)) ?_ ⟨_, rfl, Below.refl _ _, rfl⟩
              simp [execOp, Act.eval, go_sem, f1]
            | 20, ho =>
              obtain rfl := Option.some.inj ho
              have hg : aa.tmps.getD 27 undef = .bool true := F.of 16 (by kernel_rfl)
              refine flow_yes rfl rfl 27 rfl hg ?_
              have f30 : (aa.tmps.getD 30 undef) = .pointer (some ⟨G, 0, none⟩) := F.of 19 (by kernel_rfl)
              have hc := (blk (below_heap hlow HG.out)).1
              refine op_pure (.int .i64 size) ?_ ⟨_, rfl, Below.refl _ _, rfl⟩
              simp [execOp, Act.eval, go_sem, f30, hc]
            | 21, ho =>
              obtain rfl := Option.some.inj ho
              have hg : aa.tmps.getD 27 undef = .bool true := F.of 16 (by kernel_rfl)
              refine flow_yes rfl rfl 27 rfl hg ?_
              have f1 : aa.tmps.getD 1 undef = .pointer (some ⟨G, 0, none⟩) := eval_out F 1 (by kernel_rfl) _ rfl
              refine op_pure (.pointer (some ⟨G, 1, none⟩)) ?_ ⟨_, rfl, Below.refl _ _, rfl⟩
              simp [execOp, Act.eval, go_sem, f1]
            | 22, ho =>
              obtain rfl := Option.some.inj ho
              have hg : aa.tmps.getD 27 undef = .bool true := F.of 16 (by kernel_rfl)
              refine flow_yes rfl rfl 27 rfl hg ?_
              have f32 : (aa.tmps.getD 32 undef) = .pointer (some ⟨G, 1, none⟩) := F.of 21 (by kernel_rfl)
              have hc := (blk (below_heap hlow HG.out)).1
              refine op_pure (.int .i64 block) ?_ ⟨_, rfl, Below.refl _ _, rfl⟩
              simp [execOp, Act.eval, go_sem, f32, hc]
            | 23, ho =>
              obtain rfl := Option.some.inj ho
              have hg : aa.tmps.getD 27 undef = .bool true := F.of 16 (by kernel_rfl)
              refine flow_yes rfl rfl 27 rfl hg ?_
              have f1 : aa.tmps.getD 1 undef = .pointer (some ⟨G, 0, none⟩) := eval_out F 1 (by kernel_rfl) _ rfl
              refine op_pure (.pointer (some ⟨G, 2, none⟩)) ?_ ⟨_, rfl, Below.refl _ _, rfl⟩
              simp [execOp, Act.eval, go_sem, f1]
            | 24, ho =>
              obtain rfl := Option.some.inj ho
              have hg : aa.tmps.getD 27 undef = .bool true := F.of 16 (by kernel_rfl)
              refine flow_yes rfl rfl 27 rfl hg ?_
              have f34 : (aa.tmps.getD 34 undef) = .pointer (some ⟨G, 2, none⟩) := F.of 23 (by kernel_rfl)
              have hc := (blk (below_heap hlow HG.out)).1
              refine op_pure (.int .i64 k) ?_ ⟨_, rfl, Below.refl _ _, rfl⟩
              simp [execOp, Act.eval, go_sem, f34, hc]
            | 25, ho =>
              obtain rfl := Option.some.inj ho
              have hg : aa.tmps.getD 27 undef = .bool true := F.of 16 (by kernel_rfl)
              refine flow_yes rfl rfl 27 rfl hg ?_
              have f31 : (aa.tmps.getD 31 undef) = .int .i64 size := F.of 20 (by kernel_rfl)
              have f33 : (aa.tmps.getD 33 undef) = .int .i64 block := F.of 22 (by kernel_rfl)
              have f35 : (aa.tmps.getD 35 undef) = .int .i64 k := F.of 24 (by kernel_rfl)
              refine op_call 31 #[.tmp 31, .tmp 33, .tmp 35] #[3, 3, 3] rfl _ rfl rfl rfl #[.int .i64 size, .int .i64 block, .int .i64 k] (by simp [Act.eval, f31, f33, f35]) ?_
              refine (groups_calls _ _ _ _ HS.out HBB.out).mono ?_
              rintro e w7 ⟨rfl, rfl⟩
              exact ⟨_, rfl, _, rfl, Below.refl _ _, by rw [HGQ.out]; rfl⟩
            | 26, ho =>
              obtain rfl := Option.some.inj ho
              have hg : aa.tmps.getD 27 undef = .bool true := F.of 16 (by kernel_rfl)
              refine flow_yes rfl rfl 27 rfl hg ?_
              have f1 : aa.tmps.getD 1 undef = .pointer (some ⟨G, 0, none⟩) := eval_out F 1 (by kernel_rfl) _ rfl
              refine op_pure (.pointer (some ⟨G, 1, none⟩)) ?_ ⟨_, rfl, Below.refl _ _, rfl⟩
              simp [execOp, Act.eval, go_sem, f1]
            | 27, ho =>
              obtain rfl := Option.some.inj ho
              have hg : aa.tmps.getD 27 undef = .bool true := F.of 16 (by kernel_rfl)
              refine flow_yes rfl rfl 27 rfl hg ?_
              have f37 : (aa.tmps.getD 37 undef) = .pointer (some ⟨G, 1, none⟩) := F.of 26 (by kernel_rfl)
              have hc := (blk (below_heap hlow HG.out)).1
              refine op_pure (.int .i64 block) ?_ ⟨_, rfl, Below.refl _ _, rfl⟩
              simp [execOp, Act.eval, go_sem, f37, hc]
            | 28, ho =>
              obtain rfl := Option.some.inj ho
              have hg : aa.tmps.getD 27 undef = .bool true := F.of 16 (by kernel_rfl)
              refine flow_yes rfl rfl 27 rfl hg ?_
              have f29 : (aa.tmps.getD 29 undef) = .slice Ap np cp := F.of 18 (by kernel_rfl)
              have f36 : (aa.tmps.getD 36 undef) = .int .i64 gq := F.of 25 (by kernel_rfl)
              have f38 : (aa.tmps.getD 38 undef) = .int .i64 block := F.of 27 (by kernel_rfl)
              refine op_call 28 #[.tmp 29, .tmp 36, .tmp 38] #[24, 3, 3] rfl _ rfl rfl rfl #[.slice Ap np cp, .int .i64 gq, .int .i64 block] (by simp [Act.eval, f29, f36, f38]) ?_
              refine (long_calls _ _ _ (HP.out.below (below_step HB1.out hlow))).mono ?_
              rintro e w7 ⟨rfl, hb7⟩
              exact ⟨_, rfl, _, rfl, hb7, by rw [HL2.out]; rfl⟩
            | 29, ho =>
              obtain rfl := Option.some.inj ho
              refine flow_plain rfl rfl ?_
              have f27 : (aa.tmps.getD 27 undef) = .bool true := F.of 16 (by kernel_rfl)
              have f39 : (aa.tmps.getD 39 undef) = .bool false := F.of 28 (by kernel_rfl)
              refine op_pure (.bool false) ?_ ⟨_, rfl, Below.refl _ _, rfl⟩
              simp [execOp, Act.eval, go_sem, f27, f39]
            | 30, ho =>
              obtain rfl := Option.some.inj ho
              refine flow_plain rfl rfl ?_
              have f40 : (aa.tmps.getD 40 undef) = .bool false := F.of 29 (by kernel_rfl)
              exact op_assign (.tmp 40) rfl ⟨_, rfl, Below.refl _ _, f40⟩
            | j + 31, ho => exact absurd (Array.getElem?_eq_some_iff.1 ho).1 (by simp)
          · intro a' w' htsz hdfs hsame hlow hgot
            have h2 : a'.tmps.getD 2 undef = .bool false := hgot 30 (by simp)
            have hB := Aside0.mk (below_step HB1.out hlow)
            clear hgot hlow hsame
            go_wp2_with fail
            exact bodyPost_ret (results_tmp rfl _ _ _) hdfs ⟨by rw [h2], hB.out⟩
        · have HL2 := Aside0.mk hl2
          obtain rfl : o = true := by rw [HO.out, hl1, hreq, hl2]; rfl
          clear hl1 hreq hl2 hW
          refine wp_region_flowA (SndD W G size block k q gq Ar Al Ap nr nl np cr cl cp RL) (by kernel_rfl) (by kernel_rfl) (SndD_st _ _ _ _ _ _ _ _ _ _ _ _ _ _ _ _ _) ?_ ?_
          · intro i o ho aa w' F
            have hlow := F.low
            match i, ho with
            | 0, ho =>
              obtain rfl := Option.some.inj ho
              refine flow_plain rfl rfl ?_
              have f1 : aa.tmps.getD 1 undef = .pointer (some ⟨G, 0, none⟩) := eval_out F 1 (by kernel_rfl) _ rfl
              refine op_pure (.pointer (some ⟨G, 4, none⟩)) ?_ ⟨_, rfl, Below.refl _ _, rfl⟩
              simp [execOp, Act.eval, go_sem, f1]
            | 1, ho =>
              obtain rfl := Option.some.inj ho
              refine flow_plain rfl rfl ?_
              have f11 : (aa.tmps.getD 11 undef) = .pointer (some ⟨G, 4, none⟩) := F.of 0 (by kernel_rfl)
              have hc := (blk (below_heap hlow HG.out)).1
              refine op_pure (.slice Al nl cl) ?_ ⟨_, rfl, Below.refl _ _, rfl⟩
              simp [execOp, Act.eval, go_sem, f11, hc]
            | 2, ho =>
              obtain rfl := Option.some.inj ho
              refine flow_plain rfl rfl ?_
              have f1 : aa.tmps.getD 1 undef = .pointer (some ⟨G, 0, none⟩) := eval_out F 1 (by kernel_rfl) _ rfl
              refine op_pure (.pointer (some ⟨G, 0, none⟩)) ?_ ⟨_, rfl, Below.refl _ _, rfl⟩
              simp [execOp, Act.eval, go_sem, f1]
            | 3, ho =>
              obtain rfl := Option.some.inj ho
              refine flow_plain rfl rfl ?_
              have f13 : (aa.tmps.getD 13 undef) = .pointer (some ⟨G, 0, none⟩) := F.of 2 (by kernel_rfl)
              have hc := (blk (below_heap hlow HG.out)).1
              refine op_pure (.int .i64 size) ?_ ⟨_, rfl, Below.refl _ _, rfl⟩
              simp [execOp, Act.eval, go_sem, f13, hc]
            | 4, ho =>
              obtain rfl := Option.some.inj ho
              refine flow_plain rfl rfl ?_
              have f1 : aa.tmps.getD 1 undef = .pointer (some ⟨G, 0, none⟩) := eval_out F 1 (by kernel_rfl) _ rfl
              refine op_pure (.pointer (some ⟨G, 1, none⟩)) ?_ ⟨_, rfl, Below.refl _ _, rfl⟩
              simp [execOp, Act.eval, go_sem, f1]
            | 5, ho =>
              obtain rfl := Option.some.inj ho
              refine flow_plain rfl rfl ?_
              have f15 : (aa.tmps.getD 15 undef) = .pointer (some ⟨G, 1, none⟩) := F.of 4 (by kernel_rfl)
              have hc := (blk (below_heap hlow HG.out)).1
              refine op_pure (.int .i64 block) ?_ ⟨_, rfl, Below.refl _ _, rfl⟩
              simp [execOp, Act.eval, go_sem, f15, hc]
            | 6, ho =>
              obtain rfl := Option.some.inj ho
              refine flow_plain rfl rfl ?_
              have f14 : (aa.tmps.getD 14 undef) = .int .i64 size := F.of 3 (by kernel_rfl)
              have f16 : (aa.tmps.getD 16 undef) = .int .i64 block := F.of 5 (by kernel_rfl)
              refine op_call 29 #[.tmp 14, .tmp 16] #[3, 3] rfl _ rfl rfl rfl #[.int .i64 size, .int .i64 block] (by simp [Act.eval, f14, f16]) ?_
              refine (count_calls _ _ _ HS.out HBB.out).mono ?_
              rintro e w7 ⟨rfl, rfl⟩
              exact ⟨_, rfl, _, rfl, Below.refl _ _, by rw [HQ.out]; rfl⟩
            | 7, ho =>
              obtain rfl := Option.some.inj ho
              refine flow_plain rfl rfl ?_
              have f12 : (aa.tmps.getD 12 undef) = .slice Al nl cl := F.of 1 (by kernel_rfl)
              have f17 : (aa.tmps.getD 17 undef) = .int .i64 q := F.of 6 (by kernel_rfl)
              refine op_call 28 #[.tmp 12, .tmp 17, .const (.int .i64 32)] #[24, 3, 3] rfl _ rfl rfl rfl #[.slice Al nl cl, .int .i64 q, (.int .i64 32)] (by simp [Act.eval, f12, f17]) ?_
              refine (long_calls _ _ _ (HL.out.below (below_step HB1.out hlow))).mono ?_
              rintro e w7 ⟨rfl, hb7⟩
              exact ⟨_, rfl, _, rfl, hb7, by rw [HL1.out]; rfl⟩
            | 8, ho =>
              obtain rfl := Option.some.inj ho
              refine flow_plain rfl rfl ?_
              have f18 : (aa.tmps.getD 18 undef) = .bool true := F.of 7 (by kernel_rfl)
              exact op_move (.tmp 18) rfl ⟨_, rfl, Below.refl _ _, f18⟩
            | 9, ho =>
              obtain rfl := Option.some.inj ho
              have hg : aa.tmps.getD 19 undef = .bool true := F.of 8 (by kernel_rfl)
              refine flow_yes rfl rfl 19 rfl hg ?_
              have f1 : aa.tmps.getD 1 undef = .pointer (some ⟨G, 0, none⟩) := eval_out F 1 (by kernel_rfl) _ rfl
              refine op_pure (.pointer (some ⟨G, 4, none⟩)) ?_ ⟨_, rfl, Below.refl _ _, rfl⟩
              simp [execOp, Act.eval, go_sem, f1]
            | 10, ho =>
              obtain rfl := Option.some.inj ho
              have hg : aa.tmps.getD 19 undef = .bool true := F.of 8 (by kernel_rfl)
              refine flow_yes rfl rfl 19 rfl hg ?_
              have f20 : (aa.tmps.getD 20 undef) = .pointer (some ⟨G, 4, none⟩) := F.of 9 (by kernel_rfl)
              have hc := (blk (below_heap hlow HG.out)).1
              refine op_pure (.slice Al nl cl) ?_ ⟨_, rfl, Below.refl _ _, rfl⟩
              simp [execOp, Act.eval, go_sem, f20, hc]
            | 11, ho =>
              obtain rfl := Option.some.inj ho
              have hg : aa.tmps.getD 19 undef = .bool true := F.of 8 (by kernel_rfl)
              refine flow_yes rfl rfl 19 rfl hg ?_
              have f21 : (aa.tmps.getD 21 undef) = .slice Al nl cl := F.of 10 (by kernel_rfl)
              refine op_call 22 #[.tmp 21] #[24] rfl _ rfl rfl rfl #[.slice Al nl cl] (by simp [Act.eval, f21]) ?_
              refine (root_calls _ (HL.out.below (below_step HB1.out hlow)) (FitM.of_long HL1.out HF.out)).mono ?_
              rintro e w7 ⟨v7, rfl, hs7, hb7⟩
              rw [HRL.out] at hs7
              exact ⟨_, rfl, _, rfl, hb7, _, hs7⟩
            | 12, ho =>
              obtain rfl := Option.some.inj ho
              have hg : aa.tmps.getD 19 undef = .bool true := F.of 8 (by kernel_rfl)
              refine flow_yes rfl rfl 19 rfl hg ?_
              have f1 : aa.tmps.getD 1 undef = .pointer (some ⟨G, 0, none⟩) := eval_out F 1 (by kernel_rfl) _ rfl
              refine op_pure (.pointer (some ⟨G, 3, none⟩)) ?_ ⟨_, rfl, Below.refl _ _, rfl⟩
              simp [execOp, Act.eval, go_sem, f1]
            | 13, ho =>
              obtain rfl := Option.some.inj ho
              have hg : aa.tmps.getD 19 undef = .bool true := F.of 8 (by kernel_rfl)
              refine flow_yes rfl rfl 19 rfl hg ?_
              have f23 : (aa.tmps.getD 23 undef) = .pointer (some ⟨G, 3, none⟩) := F.of 12 (by kernel_rfl)
              have hc := (blk (below_heap hlow HG.out)).1
              refine op_pure (.slice Ar nr cr) ?_ ⟨_, rfl, Below.refl _ _, rfl⟩
              simp [execOp, Act.eval, go_sem, f23, hc]
            | 14, ho =>
              obtain rfl := Option.some.inj ho
              have hg : aa.tmps.getD 19 undef = .bool true := F.of 8 (by kernel_rfl)
              refine flow_yes rfl rfl 19 rfl hg ?_
              have f22 : ∃ b, Sl bv 5 w' b (aa.tmps.getD 22 undef) RL := F.of 11 (by kernel_rfl)
              have f24 : (aa.tmps.getD 24 undef) = .slice Ar nr cr := F.of 13 (by kernel_rfl)
              refine op_call 30 #[.tmp 22, .tmp 24] #[22, 22] rfl _ rfl rfl rfl #[aa.tmps.getD 22 undef, .slice Ar nr cr] (by simp [Act.eval, f24]) ?_
              obtain ⟨bb, f22⟩ := f22
              refine (equal_calls _ f22 (HR.out.below (below_step HB1.out hlow))).mono ?_
              rintro e w7 ⟨rfl, rfl⟩
              exact ⟨_, rfl, _, rfl, Below.refl _ _, by rw [HEQ.out]; rfl⟩
            | 15, ho =>
              obtain rfl := Option.some.inj ho
              refine flow_plain rfl rfl ?_
              have f19 : (aa.tmps.getD 19 undef) = .bool true := F.of 8 (by kernel_rfl)
              have f25 : (aa.tmps.getD 25 undef) = .bool true := F.of 14 (by kernel_rfl)
              refine op_pure (.bool true) ?_ ⟨_, rfl, Below.refl _ _, rfl⟩
              simp [execOp, Act.eval, go_sem, f19, f25]
            | 16, ho =>
              obtain rfl := Option.some.inj ho
              refine flow_plain rfl rfl ?_
              have f26 : (aa.tmps.getD 26 undef) = .bool true := F.of 15 (by kernel_rfl)
              exact op_move (.tmp 26) rfl ⟨_, rfl, Below.refl _ _, f26⟩
            | 17, ho =>
              obtain rfl := Option.some.inj ho
              have hg : aa.tmps.getD 27 undef = .bool true := F.of 16 (by kernel_rfl)
              refine flow_yes rfl rfl 27 rfl hg ?_
              have f1 : aa.tmps.getD 1 undef = .pointer (some ⟨G, 0, none⟩) := eval_out F 1 (by kernel_rfl) _ rfl
              refine op_pure (.pointer (some ⟨G, 5, none⟩)) ?_ ⟨_, rfl, Below.refl _ _, rfl⟩
              simp [execOp, Act.eval, go_sem, f1]
            | 18, ho =>
              obtain rfl := Option.some.inj ho
              have hg : aa.tmps.getD 27 undef = .bool true := F.of 16 (by kernel_rfl)
              refine flow_yes rfl rfl 27 rfl hg ?_
              have f28 : (aa.tmps.getD 28 undef) = .pointer (some ⟨G, 5, none⟩) := F.of 17 (by kernel_rfl)
              have hc := (blk (below_heap hlow HG.out)).1
              refine op_pure (.slice Ap np cp) ?_ ⟨_, rfl, Below.refl _ _, rfl⟩
              simp [execOp, Act.eval, go_sem, f28, hc]
            | 19, ho =>
              obtain rfl := Option.some.inj ho
              have hg : aa.tmps.getD 27 undef = .bool true := F.of 16 (by kernel_rfl)
              refine flow_yes rfl rfl 27 rfl hg ?_
              have f1 : aa.tmps.getD 1 undef = .pointer (some ⟨G, 0, none⟩) := eval_out F 1 (by kernel_rfl) _ rfl
              refine op_pure (.pointer (some ⟨G, 0, none⟩)) ?_ ⟨_, rfl, Below.refl _ _, rfl⟩
              simp [execOp, Act.eval, go_sem, f1]
            | 20, ho =>
              obtain rfl := Option.some.inj ho
              have hg : aa.tmps.getD 27 undef = .bool true := F.of 16 (by kernel_rfl)
              refine flow_yes rfl rfl 27 rfl hg ?_
              have f30 : (aa.tmps.getD 30 undef) = .pointer (some ⟨G, 0, none⟩) := F.of 19 (by kernel_rfl)
              have hc := (blk (below_heap hlow HG.out)).1
              refine op_pure (.int .i64 size) ?_ ⟨_, rfl, Below.refl _ _, rfl⟩
              simp [execOp, Act.eval, go_sem, f30, hc]
            | 21, ho =>
              obtain rfl := Option.some.inj ho
              have hg : aa.tmps.getD 27 undef = .bool true := F.of 16 (by kernel_rfl)
              refine flow_yes rfl rfl 27 rfl hg ?_
              have f1 : aa.tmps.getD 1 undef = .pointer (some ⟨G, 0, none⟩) := eval_out F 1 (by kernel_rfl) _ rfl
              refine op_pure (.pointer (some ⟨G, 1, none⟩)) ?_ ⟨_, rfl, Below.refl _ _, rfl⟩
              simp [execOp, Act.eval, go_sem, f1]
            | 22, ho =>
              obtain rfl := Option.some.inj ho
              have hg : aa.tmps.getD 27 undef = .bool true := F.of 16 (by kernel_rfl)
              refine flow_yes rfl rfl 27 rfl hg ?_
              have f32 : (aa.tmps.getD 32 undef) = .pointer (some ⟨G, 1, none⟩) := F.of 21 (by kernel_rfl)
              have hc := (blk (below_heap hlow HG.out)).1
              refine op_pure (.int .i64 block) ?_ ⟨_, rfl, Below.refl _ _, rfl⟩
              simp [execOp, Act.eval, go_sem, f32, hc]
            | 23, ho =>
              obtain rfl := Option.some.inj ho
              have hg : aa.tmps.getD 27 undef = .bool true := F.of 16 (by kernel_rfl)
              refine flow_yes rfl rfl 27 rfl hg ?_
              have f1 : aa.tmps.getD 1 undef = .pointer (some ⟨G, 0, none⟩) := eval_out F 1 (by kernel_rfl) _ rfl
              refine op_pure (.pointer (some ⟨G, 2, none⟩)) ?_ ⟨_, rfl, Below.refl _ _, rfl⟩
              simp [execOp, Act.eval, go_sem, f1]
            | 24, ho =>
              obtain rfl := Option.some.inj ho
              have hg : aa.tmps.getD 27 undef = .bool true := F.of 16 (by kernel_rfl)
              refine flow_yes rfl rfl 27 rfl hg ?_
              have f34 : (aa.tmps.getD 34 undef) = .pointer (some ⟨G, 2, none⟩) := F.of 23 (by kernel_rfl)
              have hc := (blk (below_heap hlow HG.out)).1
              refine op_pure (.int .i64 k) ?_ ⟨_, rfl, Below.refl _ _, rfl⟩
              simp [execOp, Act.eval, go_sem, f34, hc]
            | 25, ho =>
              obtain rfl := Option.some.inj ho
              have hg : aa.tmps.getD 27 undef = .bool true := F.of 16 (by kernel_rfl)
              refine flow_yes rfl rfl 27 rfl hg ?_
              have f31 : (aa.tmps.getD 31 undef) = .int .i64 size := F.of 20 (by kernel_rfl)
              have f33 : (aa.tmps.getD 33 undef) = .int .i64 block := F.of 22 (by kernel_rfl)
              have f35 : (aa.tmps.getD 35 undef) = .int .i64 k := F.of 24 (by kernel_rfl)
              refine op_call 31 #[.tmp 31, .tmp 33, .tmp 35] #[3, 3, 3] rfl _ rfl rfl rfl #[.int .i64 size, .int .i64 block, .int .i64 k] (by simp [Act.eval, f31, f33, f35]) ?_
              refine (groups_calls _ _ _ _ HS.out HBB.out).mono ?_
              rintro e w7 ⟨rfl, rfl⟩
              exact ⟨_, rfl, _, rfl, Below.refl _ _, by rw [HGQ.out]; rfl⟩
            | 26, ho =>
              obtain rfl := Option.some.inj ho
              have hg : aa.tmps.getD 27 undef = .bool true := F.of 16 (by kernel_rfl)
              refine flow_yes rfl rfl 27 rfl hg ?_
              have f1 : aa.tmps.getD 1 undef = .pointer (some ⟨G, 0, none⟩) := eval_out F 1 (by kernel_rfl) _ rfl
              refine op_pure (.pointer (some ⟨G, 1, none⟩)) ?_ ⟨_, rfl, Below.refl _ _, rfl⟩
              simp [execOp, Act.eval, go_sem, f1]
            | 27, ho =>
              obtain rfl := Option.some.inj ho
              have hg : aa.tmps.getD 27 undef = .bool true := F.of 16 (by kernel_rfl)
              refine flow_yes rfl rfl 27 rfl hg ?_
              have f37 : (aa.tmps.getD 37 undef) = .pointer (some ⟨G, 1, none⟩) := F.of 26 (by kernel_rfl)
              have hc := (blk (below_heap hlow HG.out)).1
              refine op_pure (.int .i64 block) ?_ ⟨_, rfl, Below.refl _ _, rfl⟩
              simp [execOp, Act.eval, go_sem, f37, hc]
            | 28, ho =>
              obtain rfl := Option.some.inj ho
              have hg : aa.tmps.getD 27 undef = .bool true := F.of 16 (by kernel_rfl)
              refine flow_yes rfl rfl 27 rfl hg ?_
              have f29 : (aa.tmps.getD 29 undef) = .slice Ap np cp := F.of 18 (by kernel_rfl)
              have f36 : (aa.tmps.getD 36 undef) = .int .i64 gq := F.of 25 (by kernel_rfl)
              have f38 : (aa.tmps.getD 38 undef) = .int .i64 block := F.of 27 (by kernel_rfl)
              refine op_call 28 #[.tmp 29, .tmp 36, .tmp 38] #[24, 3, 3] rfl _ rfl rfl rfl #[.slice Ap np cp, .int .i64 gq, .int .i64 block] (by simp [Act.eval, f29, f36, f38]) ?_
              refine (long_calls _ _ _ (HP.out.below (below_step HB1.out hlow))).mono ?_
              rintro e w7 ⟨rfl, hb7⟩
              exact ⟨_, rfl, _, rfl, hb7, by rw [HL2.out]; rfl⟩
            | 29, ho =>
              obtain rfl := Option.some.inj ho
              refine flow_plain rfl rfl ?_
              have f27 : (aa.tmps.getD 27 undef) = .bool true := F.of 16 (by kernel_rfl)
              have f39 : (aa.tmps.getD 39 undef) = .bool true := F.of 28 (by kernel_rfl)
              refine op_pure (.bool true) ?_ ⟨_, rfl, Below.refl _ _, rfl⟩
              simp [execOp, Act.eval, go_sem, f27, f39]
            | 30, ho =>
              obtain rfl := Option.some.inj ho
              refine flow_plain rfl rfl ?_
              have f40 : (aa.tmps.getD 40 undef) = .bool true := F.of 29 (by kernel_rfl)
              exact op_assign (.tmp 40) rfl ⟨_, rfl, Below.refl _ _, f40⟩
            | j + 31, ho => exact absurd (Array.getElem?_eq_some_iff.1 ho).1 (by simp)
          · intro a' w' htsz hdfs hsame hlow hgot
            have h2 : a'.tmps.getD 2 undef = .bool true := hgot 30 (by simp)
            have hB := Aside0.mk (below_step HB1.out hlow)
            clear hgot hlow hsame
            go_wp2_with fail
            exact bodyPost_ret (results_tmp rfl _ _ _) hdfs ⟨by rw [h2], hB.out⟩
end Go.Proofs.Ytplbmflgmfoanaa
