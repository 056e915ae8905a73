/-
  What is due comes in the order in which it stands. No condition: for every input.
-/
import Derived.Test.YtmpmngfimeojhaaOrderPure
import Derived.BigQuiet
namespace Go.Proofs.Ytmpmngfimeojhaa
open Go.RowKit Go.Joins
set_option linter.unusedVariables false
set_option linter.unusedSimpArgs false

theorem or4 : ∀ a b c d : Bool, (a || b || c || d) = true → a = true ∨ (a = false ∧ b = true) ∨ (a = false ∧ b = false ∧ c = true) ∨ (a = false ∧ b = false ∧ c = false ∧ d = true) := by decide

set_option maxRecDepth 100000 in
set_option maxHeartbeats 2000000 in
theorem order_out {b0 b1 : Nat} {v u : Value} {ds ss : List Int} (now : Int) (w : World) (hv : Sl iv 3 w b0 v ds) (hu : Sl iv 3 w b1 u ss) (hout : ¬ (ds.length ≤ 30 ∧ ss.length ≤ 30 ∧ 0 ≤ now ∧ now ≤ 1000)) :
    Calls Try.prog 4 #[v, u, .int .i64 now] w fun e w' => e = .returned (.bool true) ∧ Below w.heap.size w w' := by
  obtain ⟨A, c, rfl, hc, hm, _⟩ := hv
  obtain ⟨A', c', rfl, hc', hm', _⟩ := hu
  have HA := Aside0.mk (awake_calls w)
  have hor := or4 (decide (30 < (ds.length : Int))) (decide (30 < (ss.length : Int))) (decide (now < 0)) (decide (1000 < now)) (by
    simp only [Bool.or_eq_true, decide_eq_true_eq]
    omega)
  clear hout
  rcases hor with h1 | ⟨h1, h2⟩ | ⟨h1, h2, h3⟩ | ⟨h1, h2, h3, h4⟩
  all_goals
    go_enter Try.func4, Try.ntmps4
    go_wp2_with fail
    refine HA.out.mono ?_
    rintro e w1 ⟨rfl, hb1⟩
    go_wp2_with fail
    go_ret
    exact ⟨rfl, hb1⟩

theorem info_int : (Try.prog.info? 3).map (fun i => (i.zero, i.size, i.bytes)) = some (some (.int .i64 0), 1, 8) := by kernel_rfl
def nv (k : Nat) : Value := .int .i64 (k : Int)
def nti (e : Nat) : Prop := netT e ∨ e = 3

set_option maxRecDepth 100000 in
set_option maxHeartbeats 800000 in
theorem order_in {b0 b1 : Nat} {v u : Value} {ds ss : List Int} (now : Int) (w : World) (hv : Sl iv 3 w b0 v ds) (hu : Sl iv 3 w b1 u ss) (hd : ds.length ≤ 30) (hs : ss.length ≤ 30) (hn : 0 ≤ now ∧ now ≤ 1000)
    (hdw : ∀ x ∈ ds, -9223372036854775808 ≤ x ∧ x ≤ 9223372036854775807) (hsw : ∀ x ∈ ss, -9223372036854775808 ≤ x ∧ x ≤ 9223372036854775807) :
    Calls Try.prog 4 #[v, u, .int .i64 now] w fun e w' => e = .returned (.bool true) ∧ Below w.heap.size w w' := by
  have HB0 : Aside0 (∀ (w : World) o, Below w.heap.size w (w.alloc o)) := ⟨fun w o => (Below.refl _ _).alloc (Nat.le_refl _) _⟩
  have HV := Aside0.mk (hv.old (b := w.heap.size) (e' := 5) (Nat.le_refl _))
  have HU := Aside0.mk (hu.old (b := w.heap.size) (e' := 5) (Nat.le_refl _))
  have HDW := Aside0.mk hdw
  have HSW := Aside0.mk hsw
  obtain ⟨A, c, rfl, hc, hm, _⟩ := hv
  obtain ⟨A', c', rfl, hc', hm', _⟩ := hu
  obtain ⟨hn1, hn2⟩ := hn
  have h1 : decide (30 < (ds.length : Int)) = false := decide_eq_false (by omega)
  have h2 : decide (30 < (ss.length : Int)) = false := decide_eq_false (by omega)
  have h3 : decide (now < 0) = false := decide_eq_false (by omega)
  have h4 : decide (1000 < now) = false := decide_eq_false (by omega)
  clear hdw hsw
  go_enter Try.func4, Try.ntmps4
  go_wp2_with fail
  refine (new_calls _).mono ?_
  rintro e w1 ⟨rfl, N1, hb1'⟩
  obtain ⟨g, hg⟩ : ∃ g, g = w.heap.size := ⟨_, rfl⟩
  rw [← hg] at N1 HV HU ⊢
  have HG := Aside0.mk hg
  have H1 := Aside0.mk (show NetR w1 g g (.slice none 0 0) ⟨0, 0, []⟩ ∧ Keeps nti g w w1 ∧ g < w1.heap.size from ⟨N1, .of_below hb1', blk_lt N1.box⟩)
  clear N1 hb1' hg h1 h2 h3 h4
  go_wp2_with fail
  go_loopw [8, 9] (fun o i wr => ∃ n : Nat, n ≤ ds.length ∧ i = .int .i64 n ∧ (∃ Ao co, o = .slice Ao n co) ∧ Aside0 (∃ v fs, NetR wr g g v ⟨(n : Int), 0, fs⟩ ∧ fs.map Fr.key = (List.range n).map (kf ds) ∧ wr.ownsRow g 3 1 o (List.range n).length ((List.range n).map nv) ∧ Keeps nti g w wr ∧ g < wr.heap.size)) (fun o i wr => ds.length - (intOf i).toNat)
  case atStart => exact ⟨0, Nat.zero_le _, rfl, ⟨_, _, rfl⟩, ⟨_, [], H1.out.1, rfl, World.ownsRow_nil _ _ _ _, H1.out.2.1, H1.out.2.2⟩⟩
  case round =>
    obtain ⟨n, hn, rfl, ⟨Ao, co, rfl⟩, hs⟩ := hrel
    by_cases hlt : n < ds.length
    · obtain ⟨vn, fs, Nn, hkey, hown, hK, hgw⟩ := hs.out
      obtain ⟨A2, c2, he, _, _, hR⟩ := (HV.out.keeps hK (by unfold nti netT; decide) (Nat.le_refl _) : Sl iv 5 wr g _ ds)
      cases he
      obtain ⟨ad, rfl, hcell⟩ := hR.getD n (by simpa using hlt)
      obtain ⟨x, hx⟩ : ∃ x, x = ds.getD n 0 := ⟨_, rfl⟩
      have hcell : wr.cell? (ad.add n) = some (.int .i64 x) := by
        rw [hcell, hx]; simp [iv, List.getElem?_eq_getElem hlt]
      have hxb : -9223372036854775808 ≤ x ∧ x ≤ 9223372036854775807 := by
        rw [hx]; refine HDW.out _ ?_
        rw [List.getD_eq_getElem?_getD, List.getElem?_eq_getElem hlt]; exact List.getElem_mem hlt
      have HX := Aside0.mk hx
      have HXB := Aside0.mk hxb
      have HS := Aside0.mk (show NetR wr g g vn ⟨(n : Int), 0, fs⟩ ∧ fs.map Fr.key = (List.range n).map (kf ds) ∧ wr.ownsRow g 3 1 (.slice Ao n co) (List.range n).length ((List.range n).map nv) ∧ Keeps nti g w wr ∧ g < wr.heap.size from ⟨Nn, hkey, hown, hK, hgw⟩)
      clear Nn hkey hown hK hgw hR hx hxb hs
      have hcell2 := fun o => cell_keep (HB0.out wr o) hcell
      go_wp2_with fail
      refine (round_calls x 100 _ (by decide) (by decide) HXB.out).mono ?_
      rintro e w2 ⟨rfl, rfl⟩
      go_wp2_with fail
      have hrb := rnd_bd x (y := 100) (by decide)
      refine (send_calls (b := [UInt8.ofNat n]) ((n : Int) % 2) (rnd x 100) 0 _ (HS.out.1.below (HB0.out _ _)) (Sl.at (cur := #[.int .u8 n]) (fr := (0, 0)) (heap_new rfl) (by simp [bv]; omega) rfl (by simp) (by simp)) ⟨by simp, by simp; omega⟩ (by rw [key_len HS.out.2.1]; simp; omega) (by simp) (by
        simp only [sendOk, Bool.not_eq_true', Bool.or_eq_false_iff, decide_eq_false_iff_not]; omega)).mono ?_
      rintro e w3 ⟨rfl, ⟨v3, u3, N3, _⟩, K3⟩
      have K3' : Keeps nti g w w3 := (HS.out.2.2.2.1.then_below (HB0.out _ _)).trans (K3.wider (fun e he => .inl he) (Nat.le_refl _))
      have H3 := Aside0.mk (show NetR w3 g g v3 ⟨(n : Int) + 1, 0, fs ++ [⟨(n : Int) + 1, (n : Int) % 2, 0 + rnd x 100, [UInt8.ofNat n], u3⟩]⟩ ∧ (fs ++ [(⟨(n : Int) + 1, (n : Int) % 2, 0 + rnd x 100, [UInt8.ofNat n], u3⟩ : Fr)]).map Fr.key = (List.range (n + 1)).map (kf ds) ∧ w3.ownsRow g 3 1 (.slice Ao n co) (List.range n).length ((List.range n).map nv) ∧ Keeps nti g w w3 ∧ g < w3.heap.size from
        ⟨N3, by rw [List.map_append, HS.out.2.1, List.range_succ, List.map_append]; simp [Fr.key, kf, HX.out], own_keeps (own_below HS.out.2.2.1 (HB0.out _ _)) K3 (by unfold netT; decide), K3', blk_lt N3.box⟩)
      clear N3 K3 K3' HS hcell hcell2 hrb
      go_wp2_with (at_builtin; refine append_row nv (fun _ => rfl) rfl (.tmp 70) (.tmp 72) 38 rfl g 3 3 0 _ _ Try.underlying38 info_int rfl (by decide) _ (List.range n) [n] _ rfl rfl (own_below H3.out.2.2.1 (HB0.out _ _)) (Sl.at (cur := #[.int .i64 n]) (fr := (0, 0)) (heap_new rfl) rfl rfl (by decide) (by decide)) (by simp; omega) (by have := H3.out.2.2.2.2; simp; omega) ?_; intro vo w4 hown4 hgr4 _)
      have hK4 : Keeps (fun e => e = 3) g w3 w4 := (Keeps.of_below (HB0.out w3 (.cells #[.int .i64 n] 3))).trans (Keeps.grown hgr4 fun k hk => by
        obtain ⟨h1, cur, fr, e', h2, rfl⟩ := own_row (own_below H3.out.2.2.1 (HB0.out _ _)) k hk
        exact ⟨h1, cur, _, fr, h2, rfl⟩)
      have H4 := Aside0.mk (show NetR w4 g g v3 ⟨(n : Int) + 1, 0, fs ++ [⟨(n : Int) + 1, (n : Int) % 2, 0 + rnd x 100, [UInt8.ofNat n], u3⟩]⟩ ∧ w4.ownsRow g 3 1 vo (List.range (n + 1)).length ((List.range (n + 1)).map nv) ∧ Keeps nti g w w4 ∧ g < w4.heap.size from
        ⟨H3.out.1.keeps hK4 (by decide) (by decide) (by decide) (Nat.le_refl _), by rw [List.range_succ]; exact hown4, H3.out.2.2.2.1.trans (hK4.wider (fun e he => .inr he) (Nat.le_refl _)), Nat.lt_of_lt_of_le H3.out.2.2.2.2 hK4.size⟩)
      obtain ⟨Av, cv, rfl, _⟩ := Sl.of_own (enc := nv) (e := 3) (b := 0) (xs := List.range (n + 1)) H4.out.2.1
      clear hown4 hgr4 hK4
      go_roundw
      case rel => exact ⟨n + 1, by omega, by go_num, ⟨_, _, by rw [List.length_range]⟩, ⟨_, _, H4.out.1, H3.out.2.1, H4.out.2.1, H4.out.2.2.1, H4.out.2.2.2⟩⟩
      case measure => simp [intOf]; omega
    · have hnd : n = ds.length := by omega
      obtain ⟨vn, fs, Nn, hkey, hown, hK, hgw⟩ := hs.out
      rw [hnd] at Nn hkey hown
      obtain ⟨N, hN⟩ : ∃ N, N = ds.length := ⟨_, rfl⟩
      rw [← hN] at hnd Nn hkey hown hlt hc hm hd ⊢
      rw [List.length_range] at hown
      have HS := Aside0.mk (show NetR wr g g vn ⟨(N : Int), 0, fs⟩ ∧ fs.map Fr.key = (List.range N).map (kf ds) ∧ wr.ownsRow g 3 1 (.slice Ao N co) N ((List.range N).map nv) ∧ Keeps nti g w wr ∧ g < wr.heap.size from ⟨Nn, hkey, hnd ▸ hown, hK, hgw⟩)
      subst hnd
      have HN := Aside0.mk hN
      clear Nn hkey hown hK hgw hs hN
      go_wp2_with fail
      go_loopw [12] (fun i wr => ∃ m : Nat, m ≤ ss.length ∧ i = .int .i64 m ∧ Aside0 (∃ (v : Value) (fs : List Fr) (ord : List Nat), NetR wr g g v ⟨(n : Int), 0, fs⟩ ∧ fs.map Fr.key = ord.map (kf ds) ∧ ord.Perm (List.range n) ∧ wr.ownsRow g 3 1 (.slice Ao n co) n (ord.map nv) ∧ Keeps nti g w wr ∧ g < wr.heap.size)) (fun i wr => ss.length - (intOf i).toNat)
      case atStart => exact ⟨0, Nat.zero_le _, rfl, ⟨_, _, _, HS.out.1, HS.out.2.1, List.Perm.refl _, HS.out.2.2.1, HS.out.2.2.2.1, HS.out.2.2.2.2⟩⟩
      case round =>
        obtain ⟨m, hm, rfl, hs⟩ := hrel
        by_cases hlt2 : m < ss.length ∧ 0 < n
        · obtain ⟨hm1, hn0⟩ := hlt2
          obtain ⟨vn, fs, ord, Nn, hkey, hperm, hown, hK, hgw⟩ := hs.out
          have hol : ord.length = n := by rw [hperm.length_eq, List.length_range]
          obtain ⟨A2, c2, he, _, _, hR⟩ := (HU.out.keeps hK (by unfold nti netT; decide) (Nat.le_refl _) : Sl iv 5 wr g _ ss)
          cases he
          obtain ⟨ad2, rfl, hcell0⟩ := hR.getD m (by simpa using hm1)
          obtain ⟨x, hx⟩ : ∃ x, x = ss.getD m 0 := ⟨_, rfl⟩
          have hcell : wr.cell? (ad2.add m) = some (.int .i64 x) := by
            rw [hcell0, hx]; simp [iv, List.getElem?_eq_getElem hm1]
          clear hcell0
          have hxb : -9223372036854775808 ≤ x ∧ x ≤ 9223372036854775807 := by
            rw [hx]; refine HSW.out _ ?_
            rw [List.getD_eq_getElem?_getD, List.getElem?_eq_getElem hm1]; exact List.getElem_mem hm1
          have hqb := tdiv_bd x (y := n) (by omega) hxb
          have hr1 := rnd_bd x (y := n) (by omega)
          have hr2 := rnd_bd (x.tdiv n) (y := n) (by omega)
          obtain ⟨q, hq⟩ : ∃ q, x.tdiv n = q := ⟨_, rfl⟩
          rw [hq] at hqb hr2
          obtain ⟨a, ha⟩ : ∃ a : Nat, rnd x n = a := ⟨(rnd x n).toNat, by omega⟩
          obtain ⟨b, hb⟩ : ∃ b : Nat, rnd q n = b := ⟨(rnd q n).toNat, by omega⟩
          have c17a : Aside0 (∀ W : World, Calls Try.prog 15 #[.int .i64 x, .int .i64 n] W fun e w' => e = .returned (.int .i64 a) ∧ w' = W) := ⟨fun W => (round_calls x n W (by omega) (by omega) hxb).mono fun e w' h => ⟨by rw [← ha]; exact h.1, h.2.symm⟩⟩
          have c17b : Aside0 (∀ W : World, Calls Try.prog 15 #[.int .i64 q, .int .i64 n] W fun e w' => e = .returned (.int .i64 b) ∧ w' = W) := ⟨fun W => (round_calls q n W (by omega) (by omega) hqb).mono fun e w' h => ⟨by rw [← hb]; exact h.1, h.2.symm⟩⟩
          have han : a < n := by omega
          have hbn : b < n := by omega
          have HS2 := Aside0.mk (show NetR wr g g vn ⟨(n : Int), 0, fs⟩ ∧ fs.map Fr.key = ord.map (kf ds) ∧ ord.Perm (List.range n) ∧ wr.ownsRow g 3 1 (.slice Ao n co) n (ord.map nv) ∧ Keeps nti g w wr ∧ g < wr.heap.size ∧ ord.length = n from ⟨Nn, hkey, hperm, hown, hK, hgw, hol⟩)
          have hnz : ¬ (n : Int) = 0 := by omega
          have hnz1 : ¬ (n : Int) = -1 := by omega
          have hwq : IntKind.i64.wrap q = q := IntWalk.i64_in _ (by omega)
          have hmi : (m : Int) < (ss.length : Int) := by omega
          clear Nn hkey hperm hown hK hgw hR hx hxb hs hol ha hb hr1 hr2 HS H1
          go_wp2_with fail
          go_quiet (first | ((go_at_call_of 15 (Value.int .i64 x); exact Calls.quiet_of_same (c17a.out _))) | ((go_at_call_of 15 (Value.int .i64 q); exact Calls.quiet_of_same (c17b.out _))))
          obtain ⟨w5, hw5⟩ : ∃ w5, w5 = wr.drewN nq := ⟨_, rfl⟩
          rw [← hw5]
          have hb5 : Below wr.heap.size wr w5 := by rw [hw5]; exact below_drewN (Below.refl _ _) nq
          clear hw5 hwq hcell c17a c17b hnz hnz1 hqb hq
          obtain ⟨go, rfl⟩ : ∃ go, Ao = some ⟨go, 0, none⟩ := by
            rcases HS2.out.2.2.2.1.2 with ⟨_, h0⟩ | ⟨g', cap, cur, he, _⟩
            · omega
            · cases he; exact ⟨_, rfl⟩
          have hol := HS2.out.2.2.2.2.2.2
          obtain ⟨ka, hka⟩ : ∃ ka, ord[a]? = some ka := ⟨_, List.getElem?_eq_getElem (by omega)⟩
          obtain ⟨kb, hkb⟩ : ∃ kb, ord[b]? = some kb := ⟨_, List.getElem?_eq_getElem (by omega)⟩
          have hfl := key_len HS2.out.2.1
          obtain ⟨fa, hfa⟩ : ∃ fa, fs[a]? = some fa := ⟨_, List.getElem?_eq_getElem (by omega)⟩
          obtain ⟨fb, hfb⟩ : ∃ fb, fs[b]? = some fb := ⟨_, List.getElem?_eq_getElem (by omega)⟩
          have hnd : ord.Nodup := HS2.out.2.2.1.nodup_iff.2 List.nodup_range
          have hka30 : ka < 30 := by
            have h1 := HS2.out.2.2.1.subset (List.mem_of_getElem? hka)
            rw [List.mem_range] at h1; omega
          have hkb30 : kb < 30 := by
            have h1 := HS2.out.2.2.1.subset (List.mem_of_getElem? hkb)
            rw [List.mem_range] at h1; omega
          have HK := Aside0.mk (show ord[a]? = some ka ∧ ord[b]? = some kb ∧ fs[a]? = some fa ∧ fs[b]? = some fb from ⟨hka, hkb, hfa, hfb⟩)
          have HIA := Aside0.mk (key_idx HS2.out.2.1 hnd a ka hka)
          have HIB := Aside0.mk (key_idx HS2.out.2.1 hnd b kb hkb)
          have hadr : ∀ j, (⟨go, 0, none⟩ : Addr).add j = ⟨go, j, none⟩ := fun j => by unfold Addr.add; split <;> simp_all
          have hrow5 := own_below HS2.out.2.2.2.1 hb5
          have ca := World.ownsRow.cells hrow5 (g := go) rfl a (nv ka) (by simp [hka])
          have cb := World.ownsRow.cells hrow5 (g := go) rfl b (nv kb) (by simp [hkb])
          rw [hadr] at ca cb
          have H5 := Aside0.mk (show NetR w5 g g vn ⟨(n : Int), 0, fs⟩ ∧ w5.ownsRow g 3 1 (.slice (some ⟨go, 0, none⟩) n co) n (ord.map nv) ∧ Keeps nti g w w5 from ⟨HS2.out.1.below hb5, hrow5, HS2.out.2.2.2.2.1.then_below hb5⟩)
          replace ca : w5.cell? ⟨go, a, none⟩ = some (.int .i64 ka) := ca
          replace cb : w5.cell? ⟨go, b, none⟩ = some (.int .i64 kb) := cb
          have hai : (a : Int) < (n : Int) := by omega
          have hbi : (b : Int) < (n : Int) := by omega
          clear hb5 hka hkb hfa hfb hnd hrow5 hol hfl
          have hwa : IntKind.i64.wrap ((ka : Int) + 1) = (ka : Int) + 1 := IntWalk.i64_in _ (by omega)
          have hwb : IntKind.i64.wrap ((kb : Int) + 1) = (kb : Int) + 1 := IntWalk.i64_in _ (by omega)
          go_wp2_with fail
          go_region_law (go_simp; go_at_call 16; refine (swap_calls ((ka : Int) + 1) ((kb : Int) + 1) _ (H5.out.1.below (Below.refl _ _).drew) a b fa fb HK.out.2.2.1 HK.out.2.2.2 HIA.out HIB.out).mono ?_; rintro e w6 ⟨rfl, ⟨v6, N6⟩, K6⟩; have H6 := Aside0.mk (And.intro N6 K6); clear N6 K6)
          all_goals
            clear ca cb hwa hwb HIA HIB
            have hadr : ∀ j, (⟨go, 0, none⟩ : Addr).add j = ⟨go, j, none⟩ := fun j => by unfold Addr.add; split <;> simp_all
            have hrow6 := own_keeps (own_below H5.out.2.1 (Below.refl _ _).drew) H6.out.2 (by unfold netT; decide)
            have ca := World.ownsRow.cells hrow6 (g := go) rfl a (nv ka) (by simp [HK.out.1])
            have cb := World.ownsRow.cells hrow6 (g := go) rfl b (nv kb) (by simp [HK.out.2.1])
            have hfz : ∀ j, w6.frozen? ⟨go, j, none⟩ = false := by
              rcases hrow6.2 with ⟨h', _⟩ | ⟨g', cap', cur, h', _, hh, _⟩
              · cases h'
              · cases h'; exact (blk hh).2
            rw [hadr] at ca cb
            replace ca : w6.cell? ⟨go, a, none⟩ = some (.int .i64 ka) := ca
            replace cb : w6.cell? ⟨go, b, none⟩ = some (.int .i64 kb) := cb
            have HR6 := Aside0.mk (show w6.ownsRow g 3 1 (.slice (some ⟨go, 0, none⟩) n co) n (ord.map nv) ∧ Keeps nti g w w6 from ⟨hrow6, H5.out.2.2.drew.trans (H6.out.2.wider (fun e he => .inl he) (Nat.le_refl _))⟩)
            have f0 : (w6.setCell ⟨go, a, none⟩ (.int .i64 kb)).cell? ⟨go, b, none⟩ = some (.int .i64 kb) := by
              by_cases h : a = b
              · subst h
                exact World.cell?_setCell_same _ _ _ ca
              · rw [World.cell?_setCell_other _ _ _ _ (by intro he; simp only [Addr.mk.injEq] at he; omega)]
                exact cb
            clear hrow6 hadr
            go_wp2_with fail
            go_region
            go_wp2_with fail
            have HST := Aside0.mk (HR6.out.1.stored a (nv kb))
            have HST2 := Aside0.mk (HST.out.1.stored b (nv ka))
            have hkk : Keeps (fun e => e = 3) g w6 ((w6.setCell ⟨go, a, none⟩ (.int .i64 kb)).setCell ⟨go, b, none⟩ (.int .i64 ka)).drew := ((Keeps.grown HST.out.2 (fun k hk => by
              obtain ⟨h1, cur, fr, e', h2, rfl⟩ := own_row HR6.out.1 k hk
              exact ⟨h1, cur, _, fr, h2, rfl⟩)).trans (Keeps.grown HST2.out.2 (fun k hk => by
              obtain ⟨h1, cur, fr, e', h2, rfl⟩ := own_row HST.out.1 k hk
              exact ⟨h1, cur, _, fr, h2, rfl⟩))).drew
            refine ⟨⟨m + 1, by omega, by go_num, ⟨v6, _, (ord.set a kb).set b ka, H6.out.1.keeps hkk (by decide) (by decide) (by decide) (Nat.le_refl _), key_swap HS2.out.2.1 a b fa fb HK.out.2.2.1 HK.out.2.2.2 ka kb HK.out.1 HK.out.2.1, (swap_perm ord a b ka kb HK.out.1 HK.out.2.1).trans HS2.out.2.2.1, ?_, HR6.out.2.trans (hkk.wider (fun e he => .inr he) (Nat.le_refl _)), ?_⟩⟩, ?_⟩
            · rw [List.map_set, List.map_set]; exact own_below HST2.out.1 (Below.refl _ _).drew
            · have h1 := HR6.out.2.size
              have h2 := hkk.size
              have h3 := HS2.out.2.2.2.2.1.size
              have h4 := H6.out.1.box
              have h5 := blk_lt h4
              omega
            · simp [intOf]; omega
        · obtain ⟨vn, fs, ord, Nn, hkey, hperm, hown, hK, hgw⟩ := hs.out
          have hol : ord.length = n := by rw [hperm.length_eq, List.length_range]
          have hsm : ∀ k ∈ ord, k < n := fun k hk => by
            have h1 := hperm.subset hk
            rwa [List.mem_range] at h1
          have HS2 := Aside0.mk (show NetR wr g g vn ⟨(n : Int), 0, fs⟩ ∧ fs.map Fr.key = (ord.filter (restK ds now 0)).map (kf ds) ∧ wr.ownsRow g 3 1 (.slice Ao n co) n (ord.map nv) ∧ Keeps nti g w wr ∧ g < wr.heap.size from ⟨Nn, by rw [rest_zero]; exact hkey, hown, hK, hgw⟩)
          have HOL := Aside0.mk hol
          have HSM := Aside0.mk hsm
          have HT : (¬ m < ss.length) ∨ (m < ss.length ∧ ¬ 0 < n) := by omega
          clear hs Nn hkey hperm hown hK hgw hol hsm HS H1 hlt2
          rcases HT with ht | ⟨ht, ht2⟩
          all_goals
            go_wp2_with fail
            go_loopw [15] (fun o wr => ∃ t : Nat, t ≤ 2 ∧ o = .int .i64 t ∧ Aside0 (∃ (v : Value) (fs : List Fr), NetR wr g g v ⟨(n : Int), 0, fs⟩ ∧ fs.map Fr.key = (ord.filter (restK ds now t)).map (kf ds) ∧ wr.ownsRow g 3 1 (.slice Ao n co) n (ord.map nv) ∧ Keeps nti g w wr ∧ g < wr.heap.size)) (fun o wr => 2 - (intOf o).toNat)
            case atStart => exact ⟨0, by omega, rfl, ⟨_, _, HS2.out⟩⟩
            case round =>
              obtain ⟨t, ht2, rfl, hs⟩ := hrel
              by_cases htt : t < 2
              · have htt' : (t : Int) < 2 := by omega
                have HTT := Aside0.mk htt
                obtain ⟨v3, fs3, N3, hkey3, hown3, hK3, hgw3⟩ := hs.out
                have hfl3 : fs3.length ≤ 30 := by
                  have h1 := congrArg List.length hkey3
                  simp only [List.length_map] at h1
                  have h2 := List.length_filter_le (restK ds now t) ord
                  have := HOL.out; omega
                have htk := take_calls t now wr N3 (by simp; omega) (key_small hkey3)
                obtain ⟨hL, hkey4⟩ := due_key hkey3
                simp only [hL] at htk
                have H3 := Aside0.mk (And.intro hkey4 (And.intro hown3 hK3))
                clear N3 hkey3 hown3 hK3 hgw3 hfl3 hL hkey4 hs HS2
                go_wp2_with fail
                refine htk.mono ?_
                rintro e w4 ⟨⟨vL, rfl, OL⟩, ⟨v4, N4⟩, K4⟩
                obtain ⟨L, hLd⟩ : ∃ L, L = (ord.filter (dueK ds t now)).map (fun k => [UInt8.ofNat k]) := ⟨_, rfl⟩
                rw [← hLd] at OL
                obtain ⟨AL, cL, rfl, hLc, hLm⟩ := OL.reads.shape
                have K4' : Keeps nti g w w4 := H3.out.2.2.trans (K4.wider (fun e he => .inl he) (Nat.le_refl _))
                have hown4 := own_keeps H3.out.2.1 K4 (by unfold netT; decide)
                have hlt4 := blk_lt N4.box
                have H4 := Aside0.mk (And.intro N4 (And.intro H3.out.1 (And.intro hown4 (And.intro K4' (And.intro hlt4 OL.reads)))))
                have HL := Aside0.mk hLd
                have HVd := Aside0.mk (HV.out.keeps K4' (by unfold nti netT; decide) (Nat.le_refl _))
                clear N4 K4 OL htk K4' hown4 hlt4 H3 hLd
                go_wp2_with fail
                go_loopw [17, 18] (fun o i wr => ∃ (j k : Nat), j ≤ n ∧ i = .int .i64 j ∧ o = .int .i64 k ∧ k ≤ j ∧ Aside0 (k = ((ord.take j).filter (dueK ds t now)).length ∧ Below w4.heap.size w4 wr)) (fun o i wr => n - (intOf i).toNat)
                case atStart => exact ⟨0, 0, Nat.zero_le _, rfl, rfl, Nat.le_refl _, ⟨rfl, Below.refl _ _⟩⟩
                case round =>
                  obtain ⟨j, k, hj, rfl, rfl, hkj, hs4⟩ := hrel
                  by_cases hjn : j < n
                  · obtain ⟨ki, hki⟩ : ∃ ki, ord[j]? = some ki := ⟨_, List.getElem?_eq_getElem (by have := HOL.out; omega)⟩
                    have hkin := HSM.out ki (List.mem_of_getElem? hki)
                    obtain ⟨go, rfl⟩ : ∃ go, Ao = some ⟨go, 0, none⟩ := by
                      rcases H4.out.2.2.1.2 with ⟨_, h0⟩ | ⟨g', cap, cur, he, _⟩
                      · omega
                      · cases he; exact ⟨_, rfl⟩
                    have hadr : ∀ j, (⟨go, 0, none⟩ : Addr).add j = ⟨go, j, none⟩ := fun j => by unfold Addr.add; split <;> simp_all
                    have co1 := World.ownsRow.cells (own_below H4.out.2.2.1 hs4.out.2) (g := go) rfl j (nv ki) (by simp [hki])
                    rw [hadr] at co1
                    replace co1 : wr.cell? ⟨go, j, none⟩ = some (.int .i64 ki) := co1
                    obtain ⟨A5, c5, he, _, _, hR5⟩ := (HVd.out.below hs4.out.2 : Sl iv 5 wr g _ ds)
                    have HKI := Aside0.mk hki
                    have hkd : ki < ds.length := by have := HN.out; omega
                    obtain ⟨ad5, hA5, hcell0⟩ := hR5.getD ki (by simpa using hkd)
                    obtain ⟨x, hx⟩ : ∃ x, x = ds.getD ki 0 := ⟨_, rfl⟩
                    have hcell5 : wr.cell? (ad5.add ki) = some (.int .i64 x) := by
                      rw [hcell0, hx]; simp [iv, List.getElem?_eq_getElem hkd]
                    have hxb : -9223372036854775808 ≤ x ∧ x ≤ 9223372036854775807 := by
                      rw [hx]; refine HDW.out _ ?_
                      rw [List.getD_eq_getElem?_getD, List.getElem?_eq_getElem hkd]; exact List.getElem_mem hkd
                    have HX := Aside0.mk hx
                    have HXB := Aside0.mk hxb
                    cases he
                    subst hA5
                    have HTF := Aside0.mk (take_filter (dueK ds t now) ord j ki hki)
                    clear hcell0 hki hadr hR5 hx hxb
                    have hjI : (j : Int) < (n : Int) := by omega
                    have hkI : (ki : Int) < (n : Int) := by omega
                    by_cases hmod : ki % 2 = t
                    · have d1 : (((ki : Int) % 2) != (t : Int)) = false := by rw [bne_eq_false_iff_eq]; omega
                      have HMOD := Aside0.mk hmod
                      clear hmod
                      go_wp2_with fail
                      refine (round_calls x 100 _ (by decide) (by decide) HXB.out).mono ?_
                      rintro e w5 ⟨rfl, rfl⟩
                      by_cases hdue : rnd x 100 ≤ now
                      · have d2 : decide (now < rnd x 100) = false := by simpa using hdue
                        have hdK : dueK ds t now ki = true := by
                          unfold dueK
                          rw [← HX.out, HMOD.out]
                          simp [hdue]
                        obtain ⟨h1, h2⟩ := HTF.out
                        rw [if_pos hdK] at h1
                        have h2 := h2 hdK
                        rw [← hs4.out.1] at h2
                        have hLk : L[k]? = some [UInt8.ofNat ki] := by rw [HL.out, List.getElem?_map, h2]; rfl
                        have hkL : k < L.length := (List.getElem?_eq_some_iff.1 hLk).1
                        have hLg : L.getD k [] = [UInt8.ofNat ki] := by rw [List.getD_eq_getElem?_getD, hLk]; rfl
                        obtain ⟨adl, cl, u, Au, cu, he, hu, hcl, hsl⟩ := (H4.out.2.2.2.2.2.below hs4.out.2).at k hkL
                        rw [hLg] at hu hsl
                        cases he
                        subst hu
                        obtain ⟨Ab, cb, hub, _, _, hRb⟩ := hsl
                        cases hub
                        obtain ⟨adb, hAb, hb0⟩ := hRb.getD 0 (by simp)
                        subst hAb
                        have hbyte : wr.cell? (adb.add 0) = some (.int .u8 ki) := by
                          rw [hb0]; simp [bv]; omega
                        replace hbyte : wr.cell? adb = some (.int .u8 ki) := hbyte
                        replace hcl : wr.cell? (adl.add k) = some (.slice (some adb) 1 cu) := hcl
                        have HK1 := Aside0.mk (show k + 1 = ((ord.take (j + 1)).filter (dueK ds t now)).length by rw [h1, List.length_append, ← hs4.out.1]; rfl)
                        have hkLi : (k : Int) < (L.length : Int) := by omega
                        have d3 : decide ((L.length : Int) ≤ (k : Int)) = false := by simp; omega
                        have d3' : decide (L.length ≤ k) = false := by simp; omega
                        clear hb0 hRb h1 h2 hLk hLg hdK HTF
                        go_wp2_with fail
                        go_quiet (fail)
                        go_wp2_with fail
                        go_roundw
                        case rel => exact ⟨j + 1, k + 1, by omega, by go_num, by go_num, by omega, ⟨HK1.out, below_drewN hs4.out.2 nq⟩⟩
                        case measure => simp [intOf]; omega
                      · have d2 : decide (now < rnd x 100) = true := by simpa using hdue
                        have hdK : dueK ds t now ki = false := by
                          unfold dueK
                          rw [← HX.out]
                          simp [hdue]
                        have HK1 := Aside0.mk (show k = ((ord.take (j + 1)).filter (dueK ds t now)).length by rw [HTF.out.1, hdK]; simpa using hs4.out.1)
                        clear hdK HTF
                        go_wp2_with fail
                        go_roundw
                        case rel => exact ⟨j + 1, k, by omega, by go_num, rfl, by omega, ⟨HK1.out, hs4.out.2⟩⟩
                        case measure => simp [intOf]; omega
                    · have d1 : (((ki : Int) % 2) != (t : Int)) = true := by simp; omega
                      have hdK : dueK ds t now ki = false := by
                        unfold dueK
                        have : (((ki % 2 : Nat) : Int) == (t : Int)) = false := by rw [beq_eq_false_iff_ne]; omega
                        rw [this, Bool.false_and]
                      have HK1 := Aside0.mk (show k = ((ord.take (j + 1)).filter (dueK ds t now)).length by rw [HTF.out.1, hdK]; simpa using hs4.out.1)
                      clear hdK HTF hmod
                      go_wp2_with fail
                      go_roundw
                      case rel => exact ⟨j + 1, k, by omega, by go_num, rfl, by omega, ⟨HK1.out, hs4.out.2⟩⟩
                      case measure => simp [intOf]; omega
                  · have hjn' : j = n := by omega
                    subst hjn'
                    have hkL : k = L.length := by
                      rw [hs4.out.1, HL.out, List.length_map, List.take_of_length_le (by have := HOL.out; omega)]
                    subst hkL
                    go_wp2_with fail
                    go_roundw
                    case rel => exact ⟨t + 1, by have := HTT.out; omega, by go_num, ⟨_, _, H4.out.1.below hs4.out.2, H4.out.2.1, own_below H4.out.2.2.1 hs4.out.2, H4.out.2.2.2.1.then_below hs4.out.2, Nat.lt_of_lt_of_le H4.out.2.2.2.2.1 hs4.out.2.size⟩⟩
                    case measure => have := HTT.out; simp [intOf]; omega
              · have htt' : ¬ (t : Int) < 2 := by omega
                have ht2' : t = 2 := by omega
                subst ht2'
                obtain ⟨v3, fs3, N3, hkey3, hown3, hK3, hgw3⟩ := hs.out
                have hfl3 : fs3.length ≤ 30 := by
                  have h1 := congrArg List.length hkey3
                  simp only [List.length_map] at h1
                  have h2 := List.length_filter_le (restK ds now 2) ord
                  have := HOL.out; omega
                have hwt := waiting_calls wr N3 (by simp; omega) (key_small hkey3)
                have H3 := Aside0.mk (And.intro hkey3 (And.intro hK3 hfl3))
                clear N3 hkey3 hown3 hK3 hgw3 hfl3 hs HS2
                go_wp2_with fail
                refine hwt.mono ?_
                rintro e w4 ⟨⟨vW, fw, rfl, OW, hkw⟩, hb4⟩
                have hkw : fw.map Fr.key = (ord.filter (restK ds now 2)).map (kf ds) := hkw.trans H3.out.1
                obtain ⟨AW, cW, rfl, hWc, hWm⟩ := OW.shape
                have HW := Aside0.mk (And.intro OW (And.intro hkw (H3.out.2.1.then_below hb4)))
                have hfw : fw.length ≤ 9223372036854775807 := by simp only [maxLen] at hWm; omega
                clear OW hkw hb4 hwt H3
                go_wp2_with fail
                go_loopw [20] (fun i wr => ∃ j : Nat, j ≤ fw.length ∧ i = .int .i64 j ∧ Aside0 (Below w4.heap.size w4 wr)) (fun i wr => fw.length - (intOf i).toNat)
                case atStart => exact ⟨0, Nat.zero_le _, rfl, ⟨Below.refl _ _⟩⟩
                case round =>
                  obtain ⟨j, hj, rfl, hs4⟩ := hrel
                  by_cases hjn : j < fw.length
                  · obtain ⟨ad, ca, he, c0, c1, c2, c3⟩ := frame_at ((SlC.of_own HW.out.1.1 0).below hs4.out) j hjn
                    cases he
                    have hdue : now < (fw[j]'hjn).due := by
                      obtain ⟨k, hk, hkey⟩ := key_get HW.out.2.1 (List.getElem?_eq_getElem hjn)
                      have h1 := rest_two (List.mem_filter.1 (List.mem_of_getElem? hk)).2
                      have h2 : (fw[j]'hjn).due = rnd (ds.getD k 0) 100 := congrArg (fun q => q.2.2.1) hkey
                      omega
                    obtain ⟨due, hdd⟩ : ∃ due, due = (fw[j]'hjn).due := ⟨_, rfl⟩
                    rw [← hdd] at c2 hdue
                    have d5 : decide (due ≤ now) = false := by simp; omega
                    clear hdd c0 c1 c3
                    go_wp2_with fail
                    go_roundw
                    case rel => exact ⟨j + 1, by omega, by go_num, ⟨hs4.out⟩⟩
                    case measure => simp [intOf]; omega
                  · have HZ := Aside0.mk (HW.out.2.2.then_below hs4.out)
                    clear hs4
                    go_wp2_with fail
                    refine (awake_calls _).mono ?_
                    rintro e w14 ⟨rfl, hb14⟩
                    have H14 := Aside0.mk (HZ.out.then_below hb14)
                    clear hb14
                    go_wp2_with fail
                    go_ret
                    exact ⟨rfl, HG.out ▸ H14.out.below (Nat.le_refl _) (by rw [HG.out]; exact Nat.le_refl _)⟩
end Go.Proofs.Ytmpmngfimeojhaa
