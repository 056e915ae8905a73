/-
  parity.mix: bytes xored into a row that the call owns. No condition but that what is xored in lies elsewhere.
-/
import Derived.Test.YtplbmflgmfoanaaProg
import Derived.Test.YtplbmflgmfoanaaParityPure
import Derived.RegionTactic
import Derived.ChangeAlike
namespace Go.Proofs.Ytplbmflgmfoanaa
open Go.RowKit
set_option linter.unusedVariables false
set_option linter.unusedSimpArgs false

/-- A row of bytes of the call's own. -/
def OwnB (w : World) (base : Nat) (v : Value) (x : List UInt8) : Prop := w.ownsRow base 5 1 v x.length (x.map bv)

theorem own_at {w : World} {base g n cap : Nat} {x : List UInt8} (h : OwnB w base (.slice (some ⟨g, 0, none⟩) n cap) x) (k : Nat) (hk : k < x.length) :
    w.cell? ⟨g, k, none⟩ = some (.int .u8 ((x.getD k 0).toNat : Int)) ∧ w.frozen? ⟨g, k, none⟩ = false := by
  constructor
  · have hc := World.ownsRow.cells h (g := g) rfl k (bv (x.getD k 0)) (by simp [List.getElem?_eq_getElem hk])
    have ha : (⟨g, 0, none⟩ : Addr).add k = ⟨g, k, none⟩ := by unfold Addr.add; split <;> simp_all
    rwa [ha] at hc
  · rcases h.2 with ⟨h', _⟩ | ⟨g', cap', cur, h', _, hh, _⟩
    · cases h'
    · cases h'; simp [World.frozen?, hh]
theorem own_set {w : World} {base g n cap : Nat} {x : List UInt8} (h : OwnB w base (.slice (some ⟨g, 0, none⟩) n cap) x) (k : Nat) (y : UInt8) :
    OwnB (w.setCell ⟨g, k, none⟩ (.int .u8 (y.toNat : Int))) base (.slice (some ⟨g, 0, none⟩) n cap) (x.set k y) ∧ w.grownBy (w.setCell ⟨g, k, none⟩ (.int .u8 (y.toNat : Int))) (some g) := by
  have hn : n = x.length := by
    rcases h.2 with ⟨h', _⟩ | ⟨g', cap', cur, h', _⟩
    · cases h'
    · cases h'; rfl
  subst hn
  have hs := World.ownsRow.stored h k (.int .u8 (y.toNat : Int))
  have he : (x.map bv).set k (.int .u8 (y.toNat : Int)) = (x.set k y).map bv := by rw [List.map_set]; rfl
  unfold OwnB
  rw [List.length_set, ← he]
  exact hs
theorem grownBy_then {a b c : World} {row : Option Nat} (h : a.grownBy b row) (k : b.grownBy c row) : a.grownBy c row :=
  ⟨k.os.trans h.os, k.tape.trans h.tape, k.output.trans h.output, Nat.le_trans h.size k.size, fun i hi hr => (k.block i (Nat.lt_of_lt_of_le hi h.size) hr).trans (h.block i hi hr)⟩

theorem grownBy_drew {a b : World} {row : Option Nat} (h : a.grownBy b row) : a.grownBy b.drew row := ⟨h.os, h.tape, h.output, h.size, h.block⟩

set_option maxHeartbeats 1000000 in
set_option maxRecDepth 100000 in
theorem mix_calls {e b0 base : Nat} {v v' : Value} {a b : List UInt8} (w : World) (ha : OwnB w base v a) (hb : Sl bv e w b0 v' b) (hne : ∀ ad n c, v' = .slice (some ad) n c → b ≠ [] → some ad.block ≠ v.ownBlock) :
    Calls Try.prog 54 #[v, v'] w fun e w' => e = .returned (.tuple #[]) ∧ OwnB w' base v (xorL a b) ∧ w.grownBy w' v.ownBlock := by
  have HA := Aside0.mk ha
  have HBs := Aside0.mk hb
  obtain ⟨A, c, rfl, hc, hl, hR⟩ := hb
  have HC : Aside0 (∀ j, j < b.length → ∃ ad, A = some ad ∧ w.cell? (ad.add j) = some (.int .u8 ((b.getD j 0).toNat : Int))) := ⟨fun j hj => by
    obtain ⟨ad, h1, h2⟩ := hR.cell j (bv b[j]) (by simp [List.getElem?_eq_getElem hj])
    exact ⟨ad, h1, by rw [h2]; simp [bv, List.getElem?_eq_getElem hj]⟩⟩
  have HN := Aside0.mk hne
  clear hR hne
  rcases ha.2 with ⟨rfl, h0⟩ | ⟨g, cap, cur, rfl, hgb, hgg, hn1, hn2, hn3, hn4⟩
  · obtain rfl : a = [] := List.eq_nil_of_length_eq_zero h0
    rw [xorL_nil_left]
    clear ha h0 HC
    go_enter Try.func54, Try.ntmps54
    go_wp2
    go_loop [10] (fun i => i = .int .i64 0) (fun i => 0)
    case atStart => rfl
    case round =>
      subst hrel
      go_wp2
      go_end0
      exact ⟨rfl, HA.out, World.grownBy.refl _ _⟩
  · have hla : a.length ≤ 9223372036854775807 := by simp only [maxLen] at hn2; omega
    clear ha hgg hn3 hn4 hn2
    go_enter Try.func54, Try.ntmps54
    go_wp2
    all_goals
      go_loopw [10] (fun i wr => ∃ k : Nat, k ≤ a.length ∧ k ≤ b.length ∧ i = .int .i64 k ∧ Aside0 (OwnB wr base (.slice (some ⟨g, 0, none⟩) a.length cap) (xorL a (b.take k)) ∧ w.grownBy wr (some g))) (fun i wr => a.length - (intOf i).toNat)
      case atStart => exact ⟨0, by omega, by omega, rfl, ⟨by rw [List.take_zero, xorL_nil]; exact HA.out, World.grownBy.refl _ _⟩⟩
      case round =>
        obtain ⟨k, hka, hkb, rfl, hs⟩ := hrel
        by_cases hlt : k < a.length ∧ k < b.length
        · obtain ⟨hlt1, hlt2⟩ := hlt
          obtain ⟨hc1, hf1⟩ := own_at hs.out.1 k (by rw [xorL_length]; exact hlt1)
          obtain ⟨ad, rfl, hcw⟩ := HC.out k hlt2
          rw [xorL_at] at hc1
          have hnb : some (ad.add k).block ≠ some g := by rw [add_eq]; exact HN.out ad _ _ rfl (by rintro rfl; simp at hlt2)
          have hcr := hs.out.2.cell hcw hnb
          clear hcw hnb
          obtain ⟨x, hxx⟩ : ∃ x, x = a.getD k 0 := ⟨_, rfl⟩
          obtain ⟨y, hyy⟩ : ∃ y, y = b.getD k 0 := ⟨_, rfl⟩
          rw [← hxx] at hc1
          rw [← hyy] at hcr
          have HXX := Aside0.mk hxx
          have HYY := Aside0.mk hyy
          clear hxx hyy
          have hx := u8_xor_bits x y
          go_wp2
          go_region
          go_wp2
          go_roundw
          case rel =>
            obtain ⟨h1, h2⟩ := own_set hs.out.1 k (a.getD k 0 ^^^ b.getD k 0)
            rw [← xorL_step a b k hlt1 hlt2] at h1
            rw [← HXX.out, ← HYY.out, UInt8.toNat_xor] at h1 h2
            exact ⟨k + 1, by omega, by omega, by go_num, ⟨h1, grownBy_then hs.out.2 (grownBy_drew h2)⟩⟩
          case measure => simp [intOf]; omega
        · go_wp2
          go_end0
          refine ⟨rfl, ?_, hs.out.2⟩
          have : xorL a (b.take k) = xorL a b := by
            apply ext_getD
            · simp [xorL_length]
            · intro j hj
              rw [xorL_get, xorL_get, take_getD]
              by_cases hjk : j < k
              · simp [hjk]
              · rw [xorL_length] at hj
                rw [getD_ge (a := b) (i := j) (by omega)]
                simp
          rw [← this]
          exact hs.out.1
end Go.Proofs.Ytplbmflgmfoanaa
