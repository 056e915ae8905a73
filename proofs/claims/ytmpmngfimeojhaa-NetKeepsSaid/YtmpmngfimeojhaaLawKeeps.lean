/-
  What is taken was sent, as it was, whatever was done with the bytes in between. No condition: for every input.
-/
import Derived.Test.YtmpmngfimeojhaaLaw19
namespace Go.Proofs.Ytmpmngfimeojhaa
open Go.RowKit Go.Joins
set_option linter.unusedVariables false
set_option linter.unusedSimpArgs false

theorem or6 : ∀ a b c d e f : Bool, (a || b || c || d || e || f) = true → a = true ∨ (a = false ∧ b = true) ∨ (a = false ∧ b = false ∧ c = true) ∨ (a = false ∧ b = false ∧ c = false ∧ d = true) ∨ (a = false ∧ b = false ∧ c = false ∧ d = false ∧ e = true) ∨ (a = false ∧ b = false ∧ c = false ∧ d = false ∧ e = false ∧ f = true) := by decide

set_option maxRecDepth 100000 in
set_option maxHeartbeats 2000000 in
theorem keeps_out {b0 : Nat} {v : Value} {b : List UInt8} (doubles delay : Int) (w : World) (hv : Sl bv 5 w b0 v b) (hout : ¬ ((1 ≤ b.length ∧ b.length ≤ 500) ∧ (0 ≤ doubles ∧ doubles ≤ 20) ∧ (0 ≤ delay ∧ delay ≤ 1000))) :
    Calls Try.prog 3 #[v, .int .i64 doubles, .int .i64 delay] w fun e w' => e = .returned (.bool true) ∧ Below w.heap.size w w' := by
  obtain ⟨A, c, rfl, hc, hm, _⟩ := hv
  have HA := Aside0.mk (awake_calls w)
  have hor := or6 ((b.length : Int) == 0) (decide (500 < (b.length : Int))) (decide (doubles < 0)) (decide (20 < doubles)) (decide (delay < 0)) (decide (1000 < delay)) (by
    simp only [Bool.or_eq_true, beq_iff_eq, decide_eq_true_eq]
    omega)
  clear hout
  rcases hor with h1 | ⟨h1, h2⟩ | ⟨h1, h2, h3⟩ | ⟨h1, h2, h3, h4⟩ | ⟨h1, h2, h3, h4, h5⟩ | ⟨h1, h2, h3, h4, h5, h6⟩
  all_goals
    go_enter Try.func3, Try.ntmps3
    go_wp2_with fail
    refine HA.out.mono ?_
    rintro e w1 ⟨rfl, hb1⟩
    go_wp2_with fail
    go_ret
    exact ⟨rfl, hb1⟩

/-- A store into a block that is none of the net's. -/
theorem NetR.other {w : World} {base g k o : Nat} {v x : Value} {s : NetS} (h : NetR w base g v s) (h1 : g ≠ k) (h2 : v.ownBlock ≠ some k) (h3 : ∀ f ∈ s.fs, ∀ ad n c, f.u = .slice (some ad) n c → ad.block ≠ k) : NetR (w.setCell ⟨k, o, none⟩ x) base g v s :=
  ⟨h.ge, heap_set h1 h.box, ownsRow_setCell_other h.row h2 _, fun f hf => by
    obtain ⟨A, c, hu, hc, hm, hR⟩ := h.bytes f hf
    refine ⟨A, c, hu, hc, hm, hR.move fun ad hA _ => ?_⟩
    subst hA
    exact Below.heap_setCell w ⟨k, o, none⟩ x _ (h3 f hf ad _ _ hu)⟩
theorem idx0 {fs : List Fr} {f : Fr} {id : Int} (h : fs[0]? = some f) (hi : f.id = id) : idxI (fun f => f.id == id) fs = (0 : Nat) := by
  cases fs with
  | nil => simp at h
  | cons x xs => simp at h; subst h; simp [idxI, hi, List.findIdx_cons]
def ntu (e : Nat) : Prop := netT e ∨ e = 5

set_option maxRecDepth 100000 in
set_option maxHeartbeats 4000000 in
theorem keeps_in {b0 : Nat} {v : Value} {b : List UInt8} (D : Nat) (delay : Int) (w : World) (hv : Sl bv 5 w b0 v b) (hb : 1 ≤ b.length ∧ b.length ≤ 500) (hd : D ≤ 20) (hl : 0 ≤ delay ∧ delay ≤ 1000) :
    Calls Try.prog 3 #[v, .int .i64 D, .int .i64 delay] w fun e w' => e = .returned (.bool true) ∧ Below w.heap.size w w' := by
  have HB0 : Aside0 (∀ (w : World) o, Below w.heap.size w (w.alloc o)) := ⟨fun w o => (Below.refl _ _).alloc (Nat.le_refl _) _⟩
  have HV := Aside0.mk (hv.old (b := w.heap.size) (e' := 3) (Nat.le_refl _))
  have HBL := Aside0.mk hb
  obtain ⟨hb1, hb5⟩ := hb
  obtain ⟨A, c, rfl, hc, hm, _⟩ := hv
  obtain ⟨hl1, hl2⟩ := hl
  have h1 : ((b.length : Int) == 0) = false := by rw [beq_eq_false_iff_ne]; omega
  have h2 : decide (500 < (b.length : Int)) = false := decide_eq_false (by omega)
  have h3 : decide ((D : Int) < 0) = false := decide_eq_false (by omega)
  have h4 : decide (20 < (D : Int)) = false := decide_eq_false (by omega)
  have h5 : decide (delay < 0) = false := decide_eq_false (by omega)
  have h6 : decide (1000 < delay) = false := decide_eq_false (by omega)
  have HSO : Aside0 (sendOk 0 delay 5 = true) := ⟨by simp only [sendOk, Bool.not_eq_true', Bool.or_eq_false_iff, decide_eq_false_iff_not]; omega⟩
  go_enter Try.func3, Try.ntmps3
  go_wp2_with fail
  refine (new_calls _).mono ?_
  rintro e w1 ⟨rfl, N1, hb1'⟩
  obtain ⟨g, hg⟩ : ∃ g, g = w.heap.size := ⟨_, rfl⟩
  rw [← hg] at N1 HV ⊢
  have HG := Aside0.mk hg
  have H1 := Aside0.mk (show NetR w1 g g (.slice none 0 0) ⟨0, 0, []⟩ ∧ Keeps netT g w w1 from ⟨N1, .of_below hb1'⟩)
  have hsz : ¬ w1.heap.size = g := by have := blk_lt N1.box; omega
  clear N1 hb1' hg h1 h2 h3 h4 h5 h6
  go_wp2_with (at_builtin; refine append_row bv (fun _ => rfl) rfl (.tmp 51) (.tmp 52) 22 rfl w1.heap.size 5 _ _ _ _ Try.underlying22 info_u8 rfl (by decide) _ [] b _ rfl rfl (World.ownsRow_made w1 #[] 0 (Nat.le_refl _) (by decide) rfl) ((HV.out.keeps H1.out.2 (by unfold netT; decide) (Nat.le_refl _)).below (HB0.out _ _)) (by simp; have := HBL.out; omega) (by simp) ?_; intro vc w2 hown hgr hnil)
  simp only [List.nil_append] at hown
  have hb2 : Below w1.heap.size w1 w2 := below_grown (HB0.out w1 _) (by simp) hgr (fun k hk => by
    have hk : some w1.heap.size = some k := hk
    cases hk; exact Nat.le_refl _)
  obtain ⟨gc, cap, rfl, hgc⟩ : ∃ gc cap, vc = .slice (some ⟨gc, 0, none⟩) b.length cap ∧ w1.heap.size ≤ gc := by
    rcases hown.2 with ⟨_, h0⟩ | ⟨g', cap, cur, rfl, hbs, _⟩
    · omega
    · exact ⟨_, _, rfl, hbs⟩
  obtain ⟨x0, hx0⟩ : ∃ x0, b[0]? = some x0 := ⟨_, List.getElem?_eq_getElem (by omega)⟩
  have H2 := Aside0.mk (show NetR w2 g g (.slice none 0 0) ⟨0, 0, []⟩ ∧ Keeps netT g w w2 ∧ w2.ownsRow w1.heap.size 5 1 (.slice (some ⟨gc, 0, none⟩) b.length cap) b.length (b.map bv) ∧ g < w1.heap.size from ⟨H1.out.1.below hb2, H1.out.2.then_below hb2, hown, blk_lt H1.out.1.box⟩)
  have hgg : ¬ gc = g := by have := H2.out.2.2.2; omega
  clear hown hgr hnil hb2
  refine (send_calls (b := b) 0 delay 5 w2 H2.out.1 (Sl.of_own H2.out.2.2.1) (by decide) (by decide) (by have := HBL.out; omega) HSO.out).mono ?_
  rintro e w3 ⟨rfl, ⟨v3, u3, N3, hf3⟩, K3⟩
  have hown3 := own_keeps H2.out.2.2.1 K3 netT_u8
  have hc0 := World.ownsRow.cells hown3 (g := gc) rfl 0 (bv x0) (by simp [hx0])
  have hz0 : ∀ j, w3.frozen? ⟨gc, j, none⟩ = false := by
    rcases hown3.2 with ⟨h', _⟩ | ⟨g', cap', cur, h', _, hh, _⟩
    · cases h'
    · cases h'; exact (blk hh).2
  have hc0 : w3.cell? ⟨gc, 0, none⟩ = some (.int .u8 (x0.toNat : Int)) := hc0
  have H3 := Aside0.mk (show NetR w3 g g v3 ⟨1, 0, [⟨1, 0, 5 + delay, b, u3⟩]⟩ ∧ Keeps netT g w w3 ∧ w3.ownsRow w1.heap.size 5 1 (.slice (some ⟨gc, 0, none⟩) b.length cap) b.length (b.map bv) ∧ ∀ ad n c, u3 = .slice (some ad) n c → w2.heap.size ≤ ad.block from ⟨N3, H2.out.2.1.trans K3, hown3, hf3⟩)
  have hbi : (0 : Int) < (b.length : Int) := by omega
  clear N3 K3 hown3 hf3
  go_wp2_with fail
  have N4 := H3.out.1.other (k := gc) (o := 0) (x := .int .u8 (((x0.toNat : Int) + 1) % 256)) (by omega) (fun he => by
    obtain ⟨_, cur, fr, e', h1, rfl⟩ := own_row H3.out.1.row gc he
    rcases H3.out.2.2.1.2 with ⟨h', _⟩ | ⟨g', cap', cur', h', _, hh, _⟩
    · cases h'
    · cases h'; rw [hh] at h1; cases h1) (fun f hf ad n c hu => by
    rw [List.mem_singleton] at hf
    subst hf
    have h1 := H3.out.2.2.2 ad n c hu
    have h2 := own_blk_lt H2.out.2.2.1 gc rfl
    omega)
  have K4 : Keeps ntu g w (w3.setCell ⟨gc, 0, none⟩ (.int .u8 (((x0.toNat : Int) + 1) % 256))) := (H3.out.2.1.wider (fun e he => .inl he) (Nat.le_refl _)).trans (by
    rcases H3.out.2.2.1.2 with ⟨h', _⟩ | ⟨g', cap', cur', h', _, hh, _⟩
    · cases h'
    · cases h'; exact Keeps.setCell (a := ⟨gc, 0, none⟩) (by show g ≤ gc; have := H2.out.2.2.2; omega) hh (.inr rfl) _)
  obtain ⟨w4, hw4⟩ : ∃ w4, w4 = w3.setCell ⟨gc, 0, none⟩ (.int .u8 (((x0.toNat : Int) + 1) % 256)) := ⟨_, rfl⟩
  rw [← hw4] at N4 K4 ⊢
  have H4 := Aside0.mk (And.intro N4 K4)
  clear hw4 N4 K4 hc0 hz0
  go_loopw [11] (fun i wr => ∃ n : Nat, n ≤ D ∧ i = .int .i64 n ∧ Aside0 (∃ v fs, NetR wr g g v ⟨(n : Int) + 1, 0, fs⟩ ∧ fs.length = n + 1 ∧ (∃ f, fs[0]? = some f ∧ f.id = 1) ∧ (∀ f ∈ fs, f.whom = 0 ∧ f.due = 5 + delay ∧ f.b = b) ∧ Keeps ntu g w wr)) (fun i wr => D - (intOf i).toNat)
  case atStart => exact ⟨0, Nat.zero_le _, rfl, ⟨_, _, H4.out.1, rfl, ⟨_, rfl, rfl⟩, by simp, H4.out.2⟩⟩
  case round =>
    obtain ⟨n, hn, rfl, hs⟩ := hrel
    have HN := Aside0.mk hn
    by_cases hlt : n < D
    · obtain ⟨vn, fs, Nn, hfl, ⟨f, hf0, hf1⟩, hall, hK⟩ := hs.out
      have hdb := double_calls 1 wr Nn 0 f hf0 (idx0 hf0 hf1) (by simp; omega) (by simp; omega) (by rw [(hall f (List.mem_of_getElem? hf0)).2.2]; have := HBL.out; omega)
      have HX := Aside0.mk (And.intro hfl (And.intro hf0 (And.intro hf1 (And.intro hall hK))))
      have HF := Aside0.mk (hall f (List.mem_of_getElem? hf0))
      have hk : ((n : Int) + 1 + 1 != 1 + (n : Int) + 1) = false := by rw [bne_eq_false_iff_eq]; omega
      clear Nn hfl hf0 hf1 hall hK
      go_wp2_with fail
      refine hdb.mono ?_
      rintro e w5 ⟨rfl, ⟨v5, u5, N5⟩, K5⟩
      have H5 := Aside0.mk (And.intro N5 K5)
      clear hdb N5 K5
      go_wp2_with fail
      go_roundw
      case rel =>
        refine ⟨n + 1, by omega, by go_num, ⟨_, _, H5.out.1, by rw [List.length_append, HX.out.1]; rfl, ⟨f, ?_, HX.out.2.2.1⟩, fun y hy => ?_, HX.out.2.2.2.2.trans (H5.out.2.wider (fun e he => .inl he) (Nat.le_refl _))⟩⟩
        · rw [List.getElem?_append_left (by have := HX.out.1; omega)]; exact HX.out.2.1
        · rcases List.mem_append.1 hy with hy | hy
          · exact HX.out.2.2.2.1 y hy
          · rw [List.mem_singleton] at hy; subst hy; exact HF.out
      case measure => simp [intOf]; omega
    · have hnD : n = D := by omega
      subst hnD
      obtain ⟨vn, fs, Nn, hfl, hf0, hall, hK⟩ := hs.out
      have HX := Aside0.mk (And.intro Nn hK)
      have HAL := Aside0.mk hall
      have HFL := Aside0.mk hfl
      have e1 : fs.filter (dueF 0 (4 + delay)) = [] := List.filter_eq_nil_iff.2 fun f hf => by obtain ⟨h1, h2, h3⟩ := hall f hf; simp [dueF, h1, h2]
      have e2 : fs.filter (fun f => !dueF 0 (4 + delay) f) = fs := List.filter_eq_self.2 fun f hf => by obtain ⟨h1, h2, h3⟩ := hall f hf; simp [dueF, h1, h2]
      have e3 : fs.filter (dueF 1 (5 + delay)) = [] := List.filter_eq_nil_iff.2 fun f hf => by obtain ⟨h1, h2, h3⟩ := hall f hf; simp [dueF, h1, h2]
      have e4 : fs.filter (fun f => !dueF 1 (5 + delay) f) = fs := List.filter_eq_self.2 fun f hf => by obtain ⟨h1, h2, h3⟩ := hall f hf; simp [dueF, h1, h2]
      have e5 : fs.filter (dueF 0 (5 + delay)) = fs := List.filter_eq_self.2 fun f hf => by obtain ⟨h1, h2, h3⟩ := hall f hf; simp [dueF, h1, h2]
      have E := Aside0.mk (And.intro e1 (And.intro e2 (And.intro e3 (And.intro e4 e5))))
      have HBF := Aside0.mk (show ∀ f ∈ fs, f.b.length ≤ 140737488355328 from fun f hf => by rw [(hall f hf).2.2]; have := HBL.out; omega)
      have HLN := Aside0.mk (show fs.length ≤ 1099511627776 by omega)
      clear Nn hf0 hall hK e1 e2 e3 e4 e5 hfl
      by_cases hdl : 0 < delay
      · have d1 : decide (0 < delay) = true := decide_eq_true hdl
        go_wp2_with fail
        refine (take_calls 0 (4 + delay) _ HX.out.1 HLN.out HBF.out).mono ?_
        rintro e w5 ⟨⟨v5, rfl, O5⟩, ⟨vv5, N5⟩, K5⟩
        simp only [E.out.1, E.out.2.1] at O5 N5
        obtain ⟨A5, c5, rfl, _⟩ := O5.reads.shape
        have H5 := Aside0.mk (And.intro N5 (HX.out.2.trans (K5.wider (fun e he => .inl he) (Nat.le_refl _))))
        clear O5 N5 K5 HX
        go_wp2_with fail
        refine (take_calls 1 (5 + delay) _ H5.out.1 HLN.out HBF.out).mono ?_
        rintro e w6 ⟨⟨v6, rfl, O6⟩, ⟨vv6, N6⟩, K6⟩
        simp only [E.out.2.2.1, E.out.2.2.2.1] at O6 N6
        obtain ⟨A6, c6, rfl, _⟩ := O6.reads.shape
        have H6 := Aside0.mk (And.intro N6 (H5.out.2.trans (K6.wider (fun e he => .inl he) (Nat.le_refl _))))
        clear O6 N6 K6 H5
        go_wp2_with fail
        refine (take_calls 0 (5 + delay) _ H6.out.1 HLN.out HBF.out).mono ?_
        rintro e w7 ⟨⟨v7, rfl, O7⟩, ⟨vv7, N7⟩, K7⟩
        simp only [E.out.2.2.2.2] at O7
        obtain ⟨L, hL⟩ : ∃ L, L = fs.map Fr.b := ⟨_, rfl⟩
        rw [← hL] at O7
        have hLn : L.length = n + 1 := by rw [hL, List.length_map]; exact HFL.out
        have HLA := Aside0.mk (show ∀ i, i < L.length → L.getD i [] = b from fun i hi => by
          have h1 : L.getD i [] ∈ L := by rw [List.getD_eq_getElem?_getD, List.getElem?_eq_getElem hi]; exact List.getElem_mem hi
          rw [hL] at h1
          obtain ⟨f, hf, h2⟩ := List.mem_map.1 h1
          rw [← hL] at h2
          rw [← h2]; exact (HAL.out f hf).2.2)
        obtain ⟨A7, c7, rfl, _⟩ := O7.reads.shape
        have K7' := H6.out.2.trans (K7.wider (T' := ntu) (fun e he => .inl he) (Nat.le_refl _))
        have H7 := Aside0.mk (And.intro O7.reads (And.intro K7' (HV.out.keeps K7' (by unfold ntu netT; decide) (Nat.le_refl _))))
        clear O7 N7 K7 K7' H6 hL
        rw [hLn]
        go_wp2_with fail
        go_loopw [15] (fun i wr => ∃ m : Nat, m ≤ n + 1 ∧ i = .int .i64 m ∧ Aside0 (Below w7.heap.size w7 wr)) (fun i wr => n + 1 - (intOf i).toNat)
        case atStart => exact ⟨0, Nat.zero_le _, rfl, ⟨Below.refl _ _⟩⟩
        case round =>
          obtain ⟨m, hm, rfl, hs⟩ := hrel
          by_cases hlt : m < n + 1
          · obtain ⟨ad, ca, u, Au, cu, he, hu, hcell, hsl⟩ := (H7.out.1.below hs.out).at m (by omega)
            rw [HLA.out m (by omega)] at hu hsl
            rw [hLn] at he
            cases he
            subst hu
            have k1 := (hsl.below ((Below.refl _ _).drew)).string (P := Try.prog) Try.underlying22 Try.underlying5 Try.underlying9
            have k2 := ((H7.out.2.2.below hs.out).below ((Below.refl _ _).drew)).string (P := Try.prog) Try.underlying22 Try.underlying5 Try.underlying9
            have h3 : ((str b).toList != (str b).toList) = false := by simp
            clear hsl
            go_wp2_with fail
            go_region
            go_wp2_with fail
            go_roundw
            case rel => exact ⟨m + 1, by omega, by go_num, ⟨hs.out.drew⟩⟩
            case measure => simp [intOf]; omega
          · have hmn : m = n + 1 := by omega
            subst hmn
            have HW := Aside0.mk (H7.out.2.1.then_below hs.out)
            clear hs H7
            go_wp2_with fail
            refine (send_nil 0 0 0 _ (by decide)).mono ?_
            rintro e w8 ⟨rfl, rfl⟩
            go_wp2_with fail
            refine (send_bad 2 0 0 _ (by decide)).mono ?_
            rintro e w8 ⟨rfl, rfl⟩
            go_wp2_with fail
            refine (double_nil 1 _).mono ?_
            rintro e w8 ⟨rfl, hb8⟩
            have H8 := Aside0.mk (HW.out.then_below hb8)
            clear hb8
            go_wp2_with fail
            refine (lose_nil 1 _).mono ?_
            rintro e w9 ⟨rfl, hb9⟩
            have H9 := Aside0.mk (H8.out.then_below hb9)
            clear hb9
            go_wp2_with fail
            refine (take_nil 0 9 _).mono ?_
            rintro e w10 ⟨rfl, hb10⟩
            have H10 := Aside0.mk (H9.out.then_below hb10)
            clear hb10
            go_wp2_with fail
            refine (due_nil 0 9 _).mono ?_
            rintro e w11 ⟨rfl, hb11⟩
            have H11 := Aside0.mk (H10.out.then_below hb11)
            clear hb11
            go_wp2_with fail
            refine (waiting_nil _).mono ?_
            rintro e w12 ⟨rfl, hb12⟩
            have H12 := Aside0.mk (H11.out.then_below hb12)
            clear hb12
            go_wp2_with fail
            refine (lost_nil _).mono ?_
            rintro e w13 ⟨rfl, rfl⟩
            go_wp2_with fail
            refine (awake_calls _).mono ?_
            rintro e w14 ⟨rfl, hb14⟩
            have H14 := Aside0.mk (H12.out.then_below hb14)
            clear hb14
            go_wp2_with fail
            go_ret
            exact ⟨rfl, HG.out ▸ H14.out.below (Nat.le_refl _) (by rw [HG.out]; exact Nat.le_refl _)⟩
      · have d1 : decide (0 < delay) = false := decide_eq_false hdl
        go_wp2_with fail
        refine (take_calls 1 (5 + delay) _ HX.out.1 HLN.out HBF.out).mono ?_
        rintro e w6 ⟨⟨v6, rfl, O6⟩, ⟨vv6, N6⟩, K6⟩
        simp only [E.out.2.2.1, E.out.2.2.2.1] at O6 N6
        obtain ⟨A6, c6, rfl, _⟩ := O6.reads.shape
        have H6 := Aside0.mk (And.intro N6 (HX.out.2.trans (K6.wider (fun e he => .inl he) (Nat.le_refl _))))
        clear O6 N6 K6 HX
        go_wp2_with fail
        refine (take_calls 0 (5 + delay) _ H6.out.1 HLN.out HBF.out).mono ?_
        rintro e w7 ⟨⟨v7, rfl, O7⟩, ⟨vv7, N7⟩, K7⟩
        simp only [E.out.2.2.2.2] at O7
        obtain ⟨L, hL⟩ : ∃ L, L = fs.map Fr.b := ⟨_, rfl⟩
        rw [← hL] at O7
        have hLn : L.length = n + 1 := by rw [hL, List.length_map]; exact HFL.out
        have HLA := Aside0.mk (show ∀ i, i < L.length → L.getD i [] = b from fun i hi => by
          have h1 : L.getD i [] ∈ L := by rw [List.getD_eq_getElem?_getD, List.getElem?_eq_getElem hi]; exact List.getElem_mem hi
          rw [hL] at h1
          obtain ⟨f, hf, h2⟩ := List.mem_map.1 h1
          rw [← hL] at h2
          rw [← h2]; exact (HAL.out f hf).2.2)
        obtain ⟨A7, c7, rfl, _⟩ := O7.reads.shape
        have K7' := H6.out.2.trans (K7.wider (T' := ntu) (fun e he => .inl he) (Nat.le_refl _))
        have H7 := Aside0.mk (And.intro O7.reads (And.intro K7' (HV.out.keeps K7' (by unfold ntu netT; decide) (Nat.le_refl _))))
        clear O7 N7 K7 K7' H6 hL
        rw [hLn]
        go_wp2_with fail
        go_loopw [15] (fun i wr => ∃ m : Nat, m ≤ n + 1 ∧ i = .int .i64 m ∧ Aside0 (Below w7.heap.size w7 wr)) (fun i wr => n + 1 - (intOf i).toNat)
        case atStart => exact ⟨0, Nat.zero_le _, rfl, ⟨Below.refl _ _⟩⟩
        case round =>
          obtain ⟨m, hm, rfl, hs⟩ := hrel
          by_cases hlt : m < n + 1
          · obtain ⟨ad, ca, u, Au, cu, he, hu, hcell, hsl⟩ := (H7.out.1.below hs.out).at m (by omega)
            rw [HLA.out m (by omega)] at hu hsl
            rw [hLn] at he
            cases he
            subst hu
            have k1 := (hsl.below ((Below.refl _ _).drew)).string (P := Try.prog) Try.underlying22 Try.underlying5 Try.underlying9
            have k2 := ((H7.out.2.2.below hs.out).below ((Below.refl _ _).drew)).string (P := Try.prog) Try.underlying22 Try.underlying5 Try.underlying9
            have h3 : ((str b).toList != (str b).toList) = false := by simp
            clear hsl
            go_wp2_with fail
            go_region
            go_wp2_with fail
            go_roundw
            case rel => exact ⟨m + 1, by omega, by go_num, ⟨hs.out.drew⟩⟩
            case measure => simp [intOf]; omega
          · have hmn : m = n + 1 := by omega
            subst hmn
            have HW := Aside0.mk (H7.out.2.1.then_below hs.out)
            clear hs H7
            go_wp2_with fail
            refine (send_nil 0 0 0 _ (by decide)).mono ?_
            rintro e w8 ⟨rfl, rfl⟩
            go_wp2_with fail
            refine (send_bad 2 0 0 _ (by decide)).mono ?_
            rintro e w8 ⟨rfl, rfl⟩
            go_wp2_with fail
            refine (double_nil 1 _).mono ?_
            rintro e w8 ⟨rfl, hb8⟩
            have H8 := Aside0.mk (HW.out.then_below hb8)
            clear hb8
            go_wp2_with fail
            refine (lose_nil 1 _).mono ?_
            rintro e w9 ⟨rfl, hb9⟩
            have H9 := Aside0.mk (H8.out.then_below hb9)
            clear hb9
            go_wp2_with fail
            refine (take_nil 0 9 _).mono ?_
            rintro e w10 ⟨rfl, hb10⟩
            have H10 := Aside0.mk (H9.out.then_below hb10)
            clear hb10
            go_wp2_with fail
            refine (due_nil 0 9 _).mono ?_
            rintro e w11 ⟨rfl, hb11⟩
            have H11 := Aside0.mk (H10.out.then_below hb11)
            clear hb11
            go_wp2_with fail
            refine (waiting_nil _).mono ?_
            rintro e w12 ⟨rfl, hb12⟩
            have H12 := Aside0.mk (H11.out.then_below hb12)
            clear hb12
            go_wp2_with fail
            refine (lost_nil _).mono ?_
            rintro e w13 ⟨rfl, rfl⟩
            go_wp2_with fail
            refine (awake_calls _).mono ?_
            rintro e w14 ⟨rfl, hb14⟩
            have H14 := Aside0.mk (H12.out.then_below hb14)
            clear hb14
            go_wp2_with fail
            go_ret
            exact ⟨rfl, HG.out ▸ H14.out.below (Nat.le_refl _) (by rw [HG.out]; exact Nat.le_refl _)⟩
end Go.Proofs.Ytmpmngfimeojhaa
