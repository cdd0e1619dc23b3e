-- Written by a program of this session (fork.py, fprint.sh). Lean checks it.
import Derived.Test.YtffdacmdgfpnmaaF0
import Derived.Test.YtffdacmdgfpnmaaF1
import Derived.Test.YtffdacmdgfpnmaaF2
namespace Go.Proofs.Ytffdacmdgfpnmaa.F
open Go.RowKit Go.Proofs.YtffdacmdgfpnmaaW.PrintWords Go.Proofs.YtffdacmdgfpnmaaW.PrintLast Go.Proofs.YtffdacmdgfpnmaaW.PrintMore
attribute [local go_sem] max2_int min2_int max_two min_two max_three min_three max_four min_four   -- for this text's walks alone
set_option linter.unusedVariables false
set_option linter.unusedSimpArgs false

/-! ### laws_markIntS: function 29 -/
def laws_markIntS.l0 : Nat → List Int → Int → Int → Option (Int × List Int)
  | 0, _, _, _ => none
  | k + 1, x0, x1, x5 => if x5 < (x0.length : Int) then (if 0 ≤ x5 then (laws_markIntS.l0 k (x0.set (x5 : Int).toNat x1) (wrap64 (x1 + 1)) (wrap64 (x5 + 1))) else (none)) else (some (x1, x0))
def laws_markIntS.f (k : Nat) (l0 : List Int) (a1 : Int) : Option (Int × List Int) := laws_markIntS.l0 k l0 a1 0
set_option maxHeartbeats 8000000 in
set_option maxRecDepth 100000 in
theorem laws_markIntS.calls (k : Nat) (P0_ : Nat → Prop) (u9000_ : Value) (l0 : List Int) (a1 : Int) (r1 : Int) (r2 : List Int) (w0 w : World) (hB : Below w0.heap.size w0 w) (ho0 : Kd.R (Kd.int .i64) 3 w w0.heap.size P0_ u9000_ l0) (h : laws_markIntS.f k l0 a1 = some (r1, r2)) :
    Calls Try.prog 29 #[u9000_, .int .i64 a1] w fun e w' => e = .returned (.int .i64 r1) ∧ Kd.R (Kd.int .i64) 3 w' w0.heap.size (fun k_ => (P0_ k_ ∨ w.heap.size ≤ k_)) u9000_ r2 ∧ Below w0.heap.size w0 w' ∧ Kept w w' (fun k_ => P0_ k_) := by
  have HO0 := q_ (show Kd.R (Kd.int .i64) 3 w w0.heap.size (fun k_ => (P0_ k_ ∨ w.heap.size ≤ k_)) u9000_ l0 from Kd.R_mono ho0 (fun k_ hk => (.inl hk))); have HK := q_ (Kept.refl w (fun k_ => P0_ k_)); have HW0 := q_ hB.size; have HB := q_ hB; clear hB; have H : (laws_markIntS.l0 k l0 a1 0) = some (r1, r2) := h; clear h; have H' := q_ H; clear H; go_enter Try.func29, Try.ntmps29; go_wp2; go_loopg [1, 5] k (fun kq v1 v5 w' => ∃ (x0_1 : List Int) (x1_1 : Int) (x5_1 : Int), v1 = .int .i64 x1_1 ∧ v5 = .int .i64 x5_1 ∧ Aside0 (laws_markIntS.l0 kq x0_1 x1_1 x5_1 = some (r1, r2)) ∧ Aside0 (kq ≤ k) ∧ Aside0 (Kd.R (Kd.int .i64) 3 w' w0.heap.size (fun k_ => (P0_ k_ ∨ w.heap.size ≤ k_)) u9000_ x0_1) ∧ Aside0 (Kept w w' (fun k_ => P0_ k_)) ∧ Aside0 (Below w0.heap.size w0 w'))
  case atStart => exact ⟨(l0), (a1), (0), (by first | rfl | (simp; done) | (simp [*]; done)), (by first | rfl | (simp; done) | (simp [*]; done)), H', ⟨Nat.le_refl _⟩, ⟨by exact Kd.R_v HO0.out⟩, ⟨by exact kv HK.out⟩, ⟨by exact bv HB.out⟩⟩
  case round =>
   clear H'; (try clear c2); (try clear p2); obtain ⟨x0_1, x1_1, x5_1, rfl, rfl, HA, HK1, HO_0, HK, HB⟩ := hrel
   cases gk with
   | zero => exact absurd HA.out (by simp [laws_markIntS.l0])
   | succ k1 =>
    have H := HA.out; clear HA; simp only [laws_markIntS.l0] at H
    by_cases c3 : x5_1 < (x0_1.length : Int)
    ·rw [if_pos c3] at H; have c3b0 : decide (x5_1 < (x0_1.length : Int)) = true := decide_eq_true c3; clear c3
     by_cases c4 : 0 ≤ x5_1
     case neg => rw [if_neg c4] at H; exact absurd H (by simp)
     rw [if_pos c4] at H; have c4b0 : decide (0 ≤ x5_1) = true := decide_eq_true c4; clear c4; obtain ⟨y159, hy159⟩ : ∃ y_ : List Int, y_ = (x0_1.set (x5_1 : Int).toNat x1_1) := ⟨_, rfl⟩; (replace H : (laws_markIntS.l0 k1 y159 (wrap64 (x1_1 + 1)) (wrap64 (x5_1 + 1))) = some (r1, r2) := by first | (rw [hy159]; with_reducible exact H) | (have H2_ := (Option.bind_some _ _).symm.trans H; rw [hy159]; with_reducible exact H2_) | (have H2_ := (Option.bind_some _ _).symm.trans H; with_reducible exact H2_) | with_reducible exact H | (rw [hy159]; exact H) | exact H); have Ny159 := q_ hy159; clear hy159; have H' := q_ H; clear H; obtain ⟨Ao6, co6, eo6⟩ := Kd.R_slice HO_0.out; subst eo6; have p5 : 0 ≤ (x5_1 : Int) := od; have q5 : (x5_1 : Int) < ((x0_1.length : Int) : Int) := od; obtain ⟨go5, co5, eo5, gb5, gl5, cl5, HG5⟩ := Kd.R_form HO_0.out (by omega); (first | cases eo5 | (injection eo5 with ea_ en_ ec_; (first | subst ea_ | (injection ea_ with ea_; subst ea_)); subst ec_; clear en_)); have GB5 := q_ gb5; have GG5 := q_ HG5; clear gb5 gl5 HG5; have HMgo5 := q_ (show (P0_ go5 ∨ w.heap.size ≤ go5) from (HO_0.out.1 _ rfl)); obtain ⟨hx5_0, hf5_0⟩ := Kd.R_celln 0 HO_0.out (x5_1 : Int) p5 q5; replace p5 := eq_true p5; replace q5 := eq_true q5; have HP7 := Kd.R_putg HO_0.out (x5_1 : Int) x1_1; go_wp2_with (first | ((with_reducible refine gate_store (t := 3) (p := 15) rfl ?_); refine store_event (t := 3) (p := 15) (v := ?vo_w8) (w1 := (wr.setCell ⟨go5, (x5_1 : Int).toNat, none⟩ (.int .i64 x1_1))) ?hg ?ho ?hn ?hr ?_; (case ho => rfl); (case hg => rfl); (case hn => rfl); (case hr => first | (go_simp; done) | (go_simp; rfl)); intro w8 hw; have hg : wr.grownBy w8 (some go5) := (by rw [hw]; exact HP7.2); have hp_ : Kd.R (Kd.int .i64) 3 w8 w0.heap.size (fun k_ => (P0_ k_ ∨ w.heap.size ≤ k_)) (.slice (some ⟨go5, 0, none⟩) x0_1.length co6) y159 := (by rw [hw, Ny159.out]; exact HP7.1); clear HP7; have n0_ := q_ (hp_); replace HB := q_ ((by rw [hw]; exact below_set (HB.out) GB5.out : Below w0.heap.size w0 w8)); replace HK := q_ (Kept.of_grown (S := (fun k_ => P0_ k_)) hg (by exact kv HK.out) (fun k_ e_ => (HO_0.out.1 k_ e_))); clear HO_0; have HO_0 := n0_; clear n0_; clear hg hw hp_)); go_roundg k1
     case measure => have := HK1.out; omega
     case rel => exact ⟨(y159), (wrap64 (x1_1 + 1)), (wrap64 (x5_1 + 1)), (by first | rfl | (simp; done) | (simp [*]; done)), (by first | rfl | (simp; done) | (simp [*]; done)), H', ⟨by have := HK1.out; omega⟩, ⟨by exact Kd.R_v HO_0.out⟩, ⟨by exact kv HK.out⟩, ⟨by exact bv HB.out⟩⟩
    ·rw [if_neg c3] at H; have c3b0 : decide (x5_1 < (x0_1.length : Int)) = false := decide_eq_false c3; clear c3; simp only [Option.some.injEq, Prod.mk.injEq] at H; obtain ⟨rfl, rfl⟩ := H; obtain ⟨Ao9, co9, eo9⟩ := Kd.R_slice HO_0.out; subst eo9; go_wp2; go_ret; exact ⟨by first | rfl | (simp [errW_none, errW_some] <;> rfl) | (simp [*, errW_none, errW_some] <;> rfl), by exact Kd.R_v HO_0.out, by exact bv HB.out, by exact kv HK.out⟩

/-! ### laws_markTransS: function 72 -/
/-- The block g holds m cells of the type t. -/
def Blk (w : World) (g m t : Nat) : Prop := ∃ cs : Array Value, w.heap[g]? = some (.cells cs t (0, 0)) ∧ cs.size = m
theorem Blk.kept {w w' : World} {g m t : Nat} {S : Nat → Prop} (h : Blk w g m t) (hk : Kept w w' S) (hs : ¬ S g) : Blk w' g m t := by
  obtain ⟨cs, h1, h2⟩ := h
  exact ⟨cs, (hk.2 g (blk_lt h1) hs).trans h1, h2⟩
theorem Blk.set {w : World} {g m t : Nat} (h : Blk w g m t) (i : Nat) (u : Value) : Blk (w.setCell ⟨g, i, none⟩ u) g m t := by
  obtain ⟨cs, h1, h2⟩ := h
  exact ⟨_, blk_set h1 i u, by simp [h2]⟩
theorem Blk.cell {w : World} {g m t : Nat} (h : Blk w g m t) (i : Nat) (hi : i < m) : ∃ u, w.cell? ⟨g, i, none⟩ = some u := by
  obtain ⟨cs, h1, h2⟩ := h
  exact ⟨cs[i]'(by omega), (blk_cell h1 i).trans (Array.getElem?_eq_getElem (by omega))⟩
theorem Blk.frozen {w : World} {g m t : Nat} (h : Blk w g m t) (i : Nat) : w.frozen? ⟨g, i, none⟩ = false := by
  obtain ⟨cs, h1, h2⟩ := h
  exact blk_frozen h1 i
theorem Blk.alloc {w : World} {g m t : Nat} (h : Blk w g m t) (o : Obj) : Blk (w.alloc o) g m t := by
  obtain ⟨cs, h1, h2⟩ := h
  exact ⟨cs, blk_alloc h1 o, h2⟩
theorem Blk.drew {w : World} {g m t : Nat} (h : Blk w g m t) : Blk w.drew g m t := h
theorem Blk.drewN {w : World} {g m t : Nat} (h : Blk w g m t) (n : Nat) : Blk (w.drewN n) g m t := h

set_option maxHeartbeats 8000000 in
set_option maxRecDepth 100000 in
theorem laws_markIntS.raw (k : Nat) (g n cap m t : Nat) (l0 : List Int) (a1 : Int) (r1 : Int) (r2 : List Int) (w0 w : World) (hB : Below w0.heap.size w0 w) (hg : w0.heap.size ≤ g) (hblk : Blk w g m t) (hn : l0.length = n) (hm : n ≤ m) (h : laws_markIntS.f k l0 a1 = some (r1, r2)) :
    Calls Try.prog 29 #[.slice (some ⟨g, 0, none⟩) n cap, .int .i64 a1] w fun e w' => e = .returned (.int .i64 r1) ∧ Blk w' g m t ∧ Below w0.heap.size w0 w' ∧ Kept w w' (fun k_ => k_ = g) := by
  have HO0 := Aside0.mk hblk
  have HK := Aside0.mk (Kept.refl w (fun k_ => k_ = g))
  have HB := Aside0.mk hB
  clear hB hblk
  have H : (laws_markIntS.l0 k l0 a1 0) = some (r1, r2) := h
  clear h
  have H' := Aside0.mk H
  have HN := Aside0.mk hn
  clear H hn
  go_enter Try.func29, Try.ntmps29
  go_wp2
  go_loopg [1, 5] k (fun kq v1 v5 w' => ∃ (x0_1 : List Int) (x1_1 : Int) (x5_1 : Int), v1 = .int .i64 x1_1 ∧ v5 = .int .i64 x5_1 ∧ Aside0 (laws_markIntS.l0 kq x0_1 x1_1 x5_1 = some (r1, r2)) ∧ Aside0 (kq ≤ k) ∧ Aside0 (x0_1.length = n) ∧ Aside0 (Blk w' g m t) ∧ Aside0 (Kept w w' (fun k_ => k_ = g)) ∧ Aside0 (Below w0.heap.size w0 w'))
  case atStart => exact ⟨(l0), (a1), (0), (by first | rfl | (simp; done) | (simp [*]; done)), (by first | rfl | (simp; done) | (simp [*]; done)), H', ⟨Nat.le_refl _⟩, HN, ⟨by (with_reducible repeat (first | apply Blk.alloc | apply Blk.drewN | apply Blk.drew)); exact HO0.out⟩, ⟨by repeat (first | (with_reducible first | exact HK.out | apply Kept.alloc | apply Kept.drewN | apply Kept.drew) | exact HK.out)⟩, ⟨by repeat (first | (with_reducible first | exact HB.out | apply below_alloc | apply pw_below_drewN | apply below_drew1) | exact HB.out)⟩⟩
  case round =>
    clear H' HN HO0 HK HB
    try clear c1
    try clear p2
    obtain ⟨x0_1, x1_1, x5_1, rfl, rfl, HA, HK1, HN, HO_0, HK, HB⟩ := hrel
    cases gk with
    | zero => exact absurd HA.out (by simp [laws_markIntS.l0])
    | succ k1 =>
      have H := HA.out
      clear HA
      simp only [laws_markIntS.l0] at H
      rw [HN.out] at H
      by_cases c3 : x5_1 < (n : Int)
      · rw [if_pos c3] at H
        have c3b0 : decide (x5_1 < (n : Int)) = true := decide_eq_true c3
        by_cases c4 : 0 ≤ x5_1
        · rw [if_pos c4] at H
          have c4b0 : decide (0 ≤ x5_1) = true := decide_eq_true c4
          have H' := Aside0.mk H
          clear H
          obtain ⟨uo, hx5_0⟩ := Blk.cell HO_0.out (x5_1 : Int).toNat (by omega)
          have hf5_0 := Blk.frozen HO_0.out (x5_1 : Int).toNat
          clear c3 c4
          have p5 : 0 ≤ (x5_1 : Int) := of_decide_eq_true (by first | (with_reducible assumption) | assumption)
          have q5 : (x5_1 : Int) < (n : Int) := of_decide_eq_true (by first | (with_reducible assumption) | assumption)
          replace p5 := eq_true p5
          replace q5 := eq_true q5
          go_wp2_with (first | ((with_reducible refine gate_store (t := 3) (p := 15) rfl ?_); refine store_event (t := 3) (p := 15) (v := ?vo_w8) (w1 := (wr.setCell ⟨g, (x5_1 : Int).toNat, none⟩ (.int .i64 x1_1))) ?hg ?ho ?hn ?hr ?_; (case ho => rfl); (case hg => rfl); (case hn => rfl); (case hr => first | (go_simp; done) | (go_simp; rfl)); intro w8 hw; have n0_ := Aside0.mk (show Blk w8 g m t by rw [hw]; exact Blk.set HO_0.out _ _); have n1_ := Aside0.mk ((by rw [hw]; exact below_set (HB.out) hg : Below w0.heap.size w0 w8)); have n2_ := Aside0.mk (show Kept w w8 (fun k_ => k_ = g) by rw [hw]; exact Kept.setCell HK.out (.inl rfl) _); clear HO_0; clear HB; clear HK; have HO_0 := n0_; have HB := n1_; have HK := n2_; clear n0_ n1_ n2_; clear hw))
          go_roundg k1
          case measure => have := HK1.out; omega
          case rel => exact ⟨(x0_1.set (x5_1 : Int).toNat x1_1), (wrap64 (x1_1 + 1)), (wrap64 (x5_1 + 1)), (by first | rfl | (simp; done) | (simp [*]; done)), (by first | rfl | (simp; done) | (simp [*]; done)), H', ⟨by have := HK1.out; omega⟩, ⟨by rw [List.length_set]; exact HN.out⟩, ⟨by (with_reducible repeat (first | apply Blk.alloc | apply Blk.drewN | apply Blk.drew)); exact HO_0.out⟩, ⟨by repeat (first | (with_reducible first | exact HK.out | apply Kept.alloc | apply Kept.drewN | apply Kept.drew) | exact HK.out)⟩, ⟨by repeat (first | (with_reducible first | exact HB.out | apply below_alloc | apply pw_below_drewN | apply below_drew1) | exact HB.out)⟩⟩
        · rw [if_neg c4] at H
          exact absurd H (by simp)
      · rw [if_neg c3] at H
        have c3b0 : decide (x5_1 < (n : Int)) = false := decide_eq_false c3
        clear c3
        simp only [Option.some.injEq, Prod.mk.injEq] at H
        obtain ⟨rfl, rfl⟩ := H
        go_wp2
        go_ret
        exact ⟨by first | rfl | (simp [errW_none, errW_some] <;> rfl) | (simp [*, errW_none, errW_some] <;> rfl), by (with_reducible repeat (first | apply Blk.alloc | apply Blk.drewN | apply Blk.drew)); exact HO_0.out, by repeat (first | (with_reducible first | exact HB.out | apply below_alloc | apply pw_below_drewN | apply below_drew1) | exact HB.out), by repeat (first | (with_reducible first | exact HK.out | apply Kept.alloc | apply Kept.drewN | apply Kept.drew) | exact HK.out)⟩
/-- A row of n whole numbers, in a block of P that isn't go: what it holds is not told. -/
def Rowed (w : World) (base : Nat) (P : Nat → Prop) (go : Nat) (v : Value) (n : Nat) : Prop :=
  (v = .slice none 0 0 ∧ n = 0) ∨ ∃ g cap, v = .slice (some ⟨g, 0, none⟩) n cap ∧ base ≤ g ∧ P g ∧ g ≠ go ∧ n ≤ cap ∧ Blk w g cap 3
theorem Rowed.of {w : World} {base go : Nat} {P oki : Nat → Prop} {v : Value} {l : List Int} (h : (Kd.int .i64).R 3 w base oki v l) (hok : ∀ k, oki k → P k ∧ k ≠ go) : Rowed w base P go v l.length := by
  obtain ⟨h0, inner, ho, _⟩ := h
  rcases ho.2 with ⟨hv, hn⟩ | ⟨g, cap, cur, hv, hb, hh, hc, _, hs, _⟩
  · exact .inl ⟨hv, hn⟩
  · have hk := hok g (h0 g (by rw [hv]; simp [Value.ownBlock]))
    exact .inr ⟨g, cap, hv, hb, hk.1, hk.2, hc, cur, hh, by rw [hs]; show cap * 1 = cap; omega⟩
theorem Rowed.kept {w w' : World} {base go : Nat} {P : Nat → Prop} {v : Value} {n gw m : Nat} (h : Rowed w base P go v n) (hk : Kept w w' (fun k => k = gw)) (hg : Blk w gw m 3) (hg' : Blk w' gw m 3) : Rowed w' base P go v n := by
  rcases h with h | ⟨g, cap, hv, hb, hP, hne, hn, hB⟩
  · exact .inl h
  · refine .inr ⟨g, cap, hv, hb, hP, hne, hn, ?_⟩
    by_cases e : g = gw
    · subst e
      obtain ⟨c1, e1, s1⟩ := hB
      obtain ⟨c2, e2, s2⟩ := hg
      obtain ⟨c3, e3, s3⟩ := hg'
      rw [e1] at e2; injection e2 with e2; injection e2 with e2
      subst e2
      exact ⟨c3, e3, by omega⟩
    · exact hB.kept hk e
theorem Rowed.nothing {w w' : World} {base go : Nat} {P : Nat → Prop} {v : Value} {n : Nat} (h : Rowed w base P go v n) (hk : Kept w w' (fun _ => False)) : Rowed w' base P go v n := by
  rcases h with h | ⟨g, cap, hv, hb, hP, hne, hn, hB⟩
  · exact .inl h
  · exact .inr ⟨g, cap, hv, hb, hP, hne, hn, hB.kept hk (fun h => h)⟩
/-- The three rows of an element. -/
def Trio (w : World) (base : Nat) (P : Nat → Prop) (go i : Nat) (t : S63) : Prop :=
  ∃ v0 v1 v2, w.cell? ⟨go, i * 3, none⟩ = some v0 ∧ w.cell? ⟨go, i * 3 + 1, none⟩ = some v1 ∧ w.cell? ⟨go, i * 3 + 2, none⟩ = some v2 ∧ Rowed w base P go v0 t.f0.length ∧ Rowed w base P go v1 t.f1.length ∧ Rowed w base P go v2 t.f2.length
def Trios (w : World) (base : Nat) (P : Nat → Prop) (go : Nat) (l : List S63) : Prop := (∃ m, Blk w go m 63) ∧ ∀ i, i < l.length → Trio w base P go i (l.getD i z63)
theorem Trios.of {w : World} {base go cap : Nat} {P : Nat → Prop} {l : List S63} (h : Kd.S k63 63 w base P (.slice (some ⟨go, 0, none⟩) l.length cap) l) : Trios w base P go l := by
  constructor
  · obtain ⟨_, inner, ho, _⟩ := Kd.S_R h
    rcases ho.2 with ⟨hv, hn⟩ | ⟨g, cap, cur, hv, hb, hh, hc, _, hs, _⟩
    · cases hv
    · injection hv with hv; injection hv with hv; injection hv with hv
      subst hv
      exact ⟨_, cur, hh, rfl⟩
  · intro i hi
    obtain ⟨oki, c, hcl, hM, hcc, hfr, hok, _⟩ := Kd.S_elem h z63 (i : Int) (by omega) (by omega)
    obtain ⟨v0, v1, v2, rfl, r0, r1, r2⟩ := k63_openM hM
    refine ⟨v0, v1, v2, ?_, ?_, ?_, Rowed.of r0 hok, Rowed.of r1 hok, Rowed.of r2 hok⟩
    · exact hcc 0 v0 rfl
    · exact hcc 1 v1 rfl
    · exact hcc 2 v2 rfl
/-- A step that keeps the row's own block, and the elements' rows as rows. -/
theorem Trios.step {w w' : World} {base go : Nat} {P : Nat → Prop} {l : List S63} (h : Trios w base P go l) (ho : w'.heap[go]? = w.heap[go]?) (hr : ∀ v n, Rowed w base P go v n → Rowed w' base P go v n) : Trios w' base P go l := by
  have hc : ∀ j, w'.cell? ⟨go, j, none⟩ = w.cell? ⟨go, j, none⟩ := by
    intro j
    obtain ⟨m, cs, h1, _⟩ := h.1
    rw [blk_cell h1 j, blk_cell (ho.trans h1) j]
  refine ⟨?_, fun i hi => ?_⟩
  · obtain ⟨m, cs, h1, h2⟩ := h.1
    exact ⟨m, cs, ho.trans h1, h2⟩
  · obtain ⟨v0, v1, v2, e0, e1, e2, r0, r1, r2⟩ := h.2 i hi
    exact ⟨v0, v1, v2, (hc _).trans e0, (hc _).trans e1, (hc _).trans e2, hr _ _ r0, hr _ _ r1, hr _ _ r2⟩
theorem Trios.alloc {w : World} {base go : Nat} {P : Nat → Prop} {l : List S63} (h : Trios w base P go l) (o : Obj) : Trios (w.alloc o) base P go l := by
  have hk : Kept w (w.alloc o) (fun _ => False) := Kept.alloc (Kept.refl _ _) o
  obtain ⟨m, cs, h1, _⟩ := h.1
  exact h.step (hk.2 go (blk_lt h1) (fun h => h)) (fun _ _ hr => hr.nothing hk)
theorem Trios.drew {w : World} {base go : Nat} {P : Nat → Prop} {l : List S63} (h : Trios w base P go l) : Trios w.drew base P go l := h
theorem Trios.drewN {w : World} {base go : Nat} {P : Nat → Prop} {l : List S63} (h : Trios w base P go l) (n : Nat) : Trios (w.drewN n) base P go l := h
/-- markIntS on one of the rows: whatever the row holds. -/
theorem markRow {w0 w : World} {go k : Nat} {P : Nat → Prop} {v : Value} {l : List S63} {x : List Int} {a1 r1 : Int} {r2 : List Int} (hB : Below w0.heap.size w0 w) (hT : Trios w w0.heap.size P go l) (hv : Rowed w w0.heap.size P go v x.length) (h : laws_markIntS.f k x a1 = some (r1, r2)) :
    Calls Try.prog 29 #[v, .int .i64 a1] w fun e w' => e = .returned (.int .i64 r1) ∧ Trios w' w0.heap.size P go l ∧ Below w0.heap.size w0 w' ∧ Kept w w' P := by
  obtain ⟨m0, cs0, ho, _⟩ := hT.1
  rcases hv with ⟨hv, hn⟩ | ⟨g, cap, hv, hb, hP, hne, hn, hBlk⟩
  · subst hv
    have hx : x = [] := List.eq_nil_of_length_eq_zero hn
    subst hx
    refine (laws_markIntS.calls k (fun _ => False) (.slice none 0 0) [] a1 r1 r2 w0 w hB (Kd.R_nil _ _ _ _ _) h).mono ?_
    rintro e w' ⟨he, _, hb, hk⟩
    exact ⟨he, hT.step (hk.2 go (blk_lt ho) (fun h => h)) (fun _ _ hr => hr.nothing hk), hb, hk.mono (fun _ h => h.elim)⟩
  · subst hv
    refine (laws_markIntS.raw k g x.length cap cap 3 x a1 r1 r2 w0 w hB hb hBlk rfl hn h).mono ?_
    rintro e w' ⟨he, hBlk', hb', hk⟩
    exact ⟨he, hT.step (hk.2 go (blk_lt ho) (fun e => hne e.symm)) (fun _ _ hr => hr.kept hk hBlk hBlk'), hb', hk.mono (fun _ e => by rw [e]; exact hP)⟩

def laws_markTransS.l0 : Nat → List S63 → Int → Int → Option Int
  | 0, _, _, _ => none
  | k + 1, x0, x1, x5 => if x5 < (x0.length : Int) then (if 0 ≤ x5 then ((laws_markIntS.f k ((rd_T63 x0 x5).f0) x1).bind fun p => ((laws_markIntS.f k ((rd_T63 x0 x5).f1) p.1).bind fun q => ((laws_markIntS.f k ((rd_T63 x0 x5).f2) q.1).bind fun s => (laws_markTransS.l0 k x0 s.1 (wrap64 (x5 + 1)))))) else (none)) else (some x1)
def laws_markTransS.f (k : Nat) (l0 : List S63) (a1 : Int) : Option Int := laws_markTransS.l0 k l0 a1 0
set_option maxHeartbeats 8000000 in
set_option maxRecDepth 100000 in
theorem laws_markTransS.calls (k : Nat) (P0_ : Nat → Prop) (u9000_ : Value) (l0 : List S63) (a1 : Int) (r : Int) (w0 w : World) (hB : Below w0.heap.size w0 w) (ho0 : Kd.S k63 63 w w0.heap.size P0_ u9000_ l0) (h : laws_markTransS.f k l0 a1 = some r) :
    Calls Try.prog 72 #[u9000_, .int .i64 a1] w fun e w' => e = .returned (.int .i64 r) ∧ Below w0.heap.size w0 w' ∧ Kept w w' (fun k_ => P0_ k_) := by
  have huT := Try.underlying63
  have huS := Try.underlying29
  obtain ⟨Ao, co, eo⟩ := Kd.S_slice ho0
  subst eo
  have hgo : l0.length = 0 ∨ ∃ go, Ao = some ⟨go, 0, none⟩ := by
    by_cases hz : l0.length = 0
    · exact .inl hz
    · obtain ⟨g, cap, e, _⟩ := Kd.S_form ho0 (by omega)
      injection e with e1 _ _
      exact .inr ⟨g, e1⟩
  have HK := Aside0.mk (Kept.refl w P0_)
  have HB := Aside0.mk hB
  have H : (laws_markTransS.l0 k l0 a1 0) = some r := h
  clear h
  have H' := Aside0.mk H
  clear H
  have HT : Aside0 (∀ go, Ao = some ⟨go, 0, none⟩ → Trios w w0.heap.size P0_ go l0) := ⟨fun go e => by subst e; exact Trios.of ho0⟩
  clear hB ho0
  go_enter Try.func72, Try.ntmps72
  go_wp2
  go_loopg [1, 5] k (fun kq v1 v5 w' => ∃ (x1_1 : Int) (x5_1 : Int), v1 = .int .i64 x1_1 ∧ v5 = .int .i64 x5_1 ∧ Aside0 (laws_markTransS.l0 kq l0 x1_1 x5_1 = some r) ∧ Aside0 (kq ≤ k) ∧ Aside0 (∀ go, Ao = some ⟨go, 0, none⟩ → Trios w' w0.heap.size P0_ go l0) ∧ Aside0 (Kept w w' P0_) ∧ Aside0 (Below w0.heap.size w0 w'))
  case atStart => exact ⟨(a1), (0), (by first | rfl | (simp; done) | (simp [*]; done)), (by first | rfl | (simp; done) | (simp [*]; done)), H', ⟨Nat.le_refl _⟩, ⟨fun go e => by (with_reducible repeat (first | apply Trios.alloc | apply Trios.drewN | apply Trios.drew)); exact HT.out go e⟩, ⟨by repeat (first | (with_reducible first | exact HK.out | apply Kept.alloc | apply Kept.drewN | apply Kept.drew) | exact HK.out)⟩, ⟨by repeat (first | (with_reducible first | exact HB.out | apply below_alloc | apply pw_below_drewN | apply below_drew1) | exact HB.out)⟩⟩
  case round =>
    clear H' HT HK HB
    try clear c1
    try clear p2
    obtain ⟨x1_1, x5_1, rfl, rfl, HA, HK1, HT, HK, HB⟩ := hrel
    cases gk with
    | zero => exact absurd HA.out (by simp [laws_markTransS.l0])
    | succ k1 =>
      have H := HA.out
      clear HA
      simp only [laws_markTransS.l0] at H
      by_cases c3 : x5_1 < (l0.length : Int)
      · rw [if_pos c3] at H
        have c3b0 : decide (x5_1 < (l0.length : Int)) = true := decide_eq_true c3
        by_cases c4 : 0 ≤ x5_1
        · rw [if_pos c4] at H
          have c4b0 : decide (0 ≤ x5_1) = true := decide_eq_true c4
          replace H := Option.bind_eq_some_iff.mp H
          obtain ⟨⟨p1, p2⟩, A0, H⟩ := H
          replace H := Option.bind_eq_some_iff.mp H
          obtain ⟨⟨q1, q2⟩, A1, H⟩ := H
          replace H := Option.bind_eq_some_iff.mp H
          obtain ⟨⟨s1, s2⟩, A2, H⟩ := H
          have H' := Aside0.mk H
          clear H
          obtain ⟨go, rfl⟩ := hgo.resolve_left (by omega)
          obtain ⟨v0, v1, v2, e0, e1, e2, r0, r1, r2⟩ := (HT.out go rfl).2 x5_1.toNat (by omega)
          have hx0 : wr.cell? ⟨go, x5_1.toNat * 3, none⟩ = some v0 := e0
          have B0 := Aside0.mk A0
          have B1 := Aside0.mk A1
          have B2 := Aside0.mk A2
          have R0 := Aside0.mk r0
          clear A0 A1 A2 e0 e1 e2 r0 r1 r2
          clear c3 c4
          have p5 : 0 ≤ (x5_1 : Int) := of_decide_eq_true (by first | (with_reducible assumption) | assumption)
          have q5 : (x5_1 : Int) < (l0.length : Int) := of_decide_eq_true (by first | (with_reducible assumption) | assumption)
          replace p5 := eq_true p5
          replace q5 := eq_true q5
          go_wp2_with (first | ((with_reducible refine gate_callee (f := 29) rfl ?_); refine goesL_ (some 18) rfl rfl Try.func29 (by kernel_rfl) rfl #[v0, .int .i64 x1_1] rfl (by (try simp only [List.map_toArray, List.map_cons, List.map_nil]); first | done | rfl) ?_; (refine (markRow (w0 := w0) (go := go) (P := P0_) (l := l0) ?side1 ?side2 ?side3 B0.out).mono ?_); (case side1 => repeat (first | (with_reducible first | exact HB.out | apply below_alloc | apply pw_below_drewN | apply below_drew1) | exact HB.out)); (case side2 => (with_reducible repeat (first | apply Trios.alloc | apply Trios.drewN | apply Trios.drew)); exact HT.out go rfl); (case side3 => exact R0.out); rintro e w8 ⟨rfl, hT, hb, hk⟩; refine ⟨_, rfl, ?_⟩; have n0_ := Aside0.mk (show ∀ g_, some (⟨go, 0, none⟩ : Addr) = some ⟨g_, 0, none⟩ → Trios w8 w0.heap.size P0_ g_ l0 from fun g_ e_ => by injection e_ with e_; injection e_ with e_; rw [← e_]; exact hT); have n1_ := Aside0.mk hb; have n2_ := Aside0.mk (Kept.then_ HK.out hk (fun k_ h_ => .inl h_)); clear HT; clear HB; clear HK; have HT := n0_; have HB := n1_; have HK := n2_; clear n0_ n1_ n2_; clear hT hb hk; obtain ⟨w0_1, w1_1, w2_1, e0, e1, e2, r0, r1, r2⟩ := (HT.out go rfl).2 x5_1.toNat (by have := of_eq_true q5; have := of_eq_true p5; omega); have hx1 : w8.cell? ⟨go, x5_1.toNat * 3 + 1, none⟩ = some w1_1 := e1; have R1 := Aside0.mk r1; clear e0 e1 e2 r0 r1 r2) | ((with_reducible refine gate_callee (f := 29) rfl ?_); refine goesL_ (some 25) rfl rfl Try.func29 (by kernel_rfl) rfl #[w1_1, .int .i64 p1] rfl (by (try simp only [List.map_toArray, List.map_cons, List.map_nil]); first | done | rfl) ?_; (refine (markRow (w0 := w0) (go := go) (P := P0_) (l := l0) ?side1 ?side2 ?side3 B1.out).mono ?_); (case side1 => repeat (first | (with_reducible first | exact HB.out | apply below_alloc | apply pw_below_drewN | apply below_drew1) | exact HB.out)); (case side2 => (with_reducible repeat (first | apply Trios.alloc | apply Trios.drewN | apply Trios.drew)); exact HT.out go rfl); (case side3 => exact R1.out); rintro e w9 ⟨rfl, hT, hb, hk⟩; refine ⟨_, rfl, ?_⟩; have n0_ := Aside0.mk (show ∀ g_, some (⟨go, 0, none⟩ : Addr) = some ⟨g_, 0, none⟩ → Trios w9 w0.heap.size P0_ g_ l0 from fun g_ e_ => by injection e_ with e_; injection e_ with e_; rw [← e_]; exact hT); have n1_ := Aside0.mk hb; have n2_ := Aside0.mk (Kept.then_ HK.out hk (fun k_ h_ => .inl h_)); clear HT; clear HB; clear HK; have HT := n0_; have HB := n1_; have HK := n2_; clear n0_ n1_ n2_; clear hT hb hk; obtain ⟨w0_2, w1_2, w2_2, e0, e1, e2, r0, r1, r2⟩ := (HT.out go rfl).2 x5_1.toNat (by have := of_eq_true q5; have := of_eq_true p5; omega); have hx2 : w9.cell? ⟨go, x5_1.toNat * 3 + 2, none⟩ = some w2_2 := e2; have R2 := Aside0.mk r2; clear e0 e1 e2 r0 r1 r2) | ((with_reducible refine gate_callee (f := 29) rfl ?_); refine goesL_ (some 32) rfl rfl Try.func29 (by kernel_rfl) rfl #[w2_2, .int .i64 q1] rfl (by (try simp only [List.map_toArray, List.map_cons, List.map_nil]); first | done | rfl) ?_; (refine (markRow (w0 := w0) (go := go) (P := P0_) (l := l0) ?side1 ?side2 ?side3 B2.out).mono ?_); (case side1 => repeat (first | (with_reducible first | exact HB.out | apply below_alloc | apply pw_below_drewN | apply below_drew1) | exact HB.out)); (case side2 => (with_reducible repeat (first | apply Trios.alloc | apply Trios.drewN | apply Trios.drew)); exact HT.out go rfl); (case side3 => exact R2.out); rintro e w10 ⟨rfl, hT, hb, hk⟩; refine ⟨_, rfl, ?_⟩; have n0_ := Aside0.mk (show ∀ g_, some (⟨go, 0, none⟩ : Addr) = some ⟨g_, 0, none⟩ → Trios w10 w0.heap.size P0_ g_ l0 from fun g_ e_ => by injection e_ with e_; injection e_ with e_; rw [← e_]; exact hT); have n1_ := Aside0.mk hb; have n2_ := Aside0.mk (Kept.then_ HK.out hk (fun k_ h_ => .inl h_)); clear HT; clear HB; clear HK; have HT := n0_; have HB := n1_; have HK := n2_; clear n0_ n1_ n2_; clear hT hb hk))
          go_roundg k1
          case measure => have := HK1.out; omega
          case rel => exact ⟨(s1), (wrap64 (x5_1 + 1)), (by first | rfl | (simp; done) | (simp [*]; done)), (by first | rfl | (simp; done) | (simp [*]; done)), H', ⟨by have := HK1.out; omega⟩, ⟨fun g_ e_ => by (with_reducible repeat (first | apply Trios.alloc | apply Trios.drewN | apply Trios.drew)); exact HT.out g_ e_⟩, ⟨by repeat (first | (with_reducible first | exact HK.out | apply Kept.alloc | apply Kept.drewN | apply Kept.drew) | exact HK.out)⟩, ⟨by repeat (first | (with_reducible first | exact HB.out | apply below_alloc | apply pw_below_drewN | apply below_drew1) | exact HB.out)⟩⟩
        · rw [if_neg c4] at H
          exact absurd H (by simp)
      · rw [if_neg c3] at H
        have c3b0 : decide (x5_1 < (l0.length : Int)) = false := decide_eq_false c3
        clear c3
        obtain rfl := Option.some.inj H
        go_wp2
        go_ret
        exact ⟨by first | rfl | (simp [errW_none, errW_some] <;> rfl) | (simp [*, errW_none, errW_some] <;> rfl), by repeat (first | (with_reducible first | exact HB.out | apply below_alloc | apply pw_below_drewN | apply below_drew1) | exact HB.out), by repeat (first | (with_reducible first | exact HK.out | apply Kept.alloc | apply Kept.drewN | apply Kept.drew) | exact HK.out)⟩

/-! ### laws_markNet: function 28 -/
def laws_markNet.f (k : Nat) (a0_0 : Int) (l0_1 : List S63) (a1 : Int) : Option Int := laws_markTransS.f k l0_1 a1
set_option maxHeartbeats 8000000 in
set_option maxRecDepth 100000 in
theorem laws_markNet.calls (k : Nat) (a0_0 : Int) (P0_1_ : Nat → Prop) (u9000_ : Value) (l0_1 : List S63) (a1 : Int) (r : Int) (w0 w : World) (hB : Below w0.heap.size w0 w) (ho0 : Kd.S k63 63 w w0.heap.size P0_1_ u9000_ l0_1) (h : laws_markNet.f k a0_0 l0_1 a1 = some r) :
    Calls Try.prog 28 #[.agg #[.int .i64 a0_0, u9000_], .int .i64 a1] w fun e w' => e = .returned (.int .i64 r) ∧ Below w0.heap.size w0 w' ∧ Kept w w' (fun k_ => P0_1_ k_) := by
  have huN := Try.underlying31
  have HO := Aside0.mk ho0
  have HK := Aside0.mk (Kept.refl w P0_1_)
  have HB := Aside0.mk hB
  have H := Aside0.mk h
  obtain ⟨Ao, co, rfl⟩ := Kd.S_slice ho0
  clear hB ho0 h
  go_enter Try.func28, Try.ntmps28
  go_wp2_with (((with_reducible refine gate_callee (f := 72) rfl ?_); refine goesL_ (some 8) rfl rfl Try.func72 (by kernel_rfl) rfl #[.slice Ao l0_1.length co, .int .i64 a1] rfl (by (try simp only [List.map_toArray, List.map_cons, List.map_nil]); first | done | rfl) ?_; (refine (laws_markTransS.calls k P0_1_ (.slice Ao l0_1.length co) l0_1 a1 r w0 _ ?side1 ?side2 H.out).mono ?_); (case side1 => repeat (first | (with_reducible first | exact HB.out | apply below_alloc | apply pw_below_drewN | apply below_drew1) | exact HB.out)); (case side2 => (with_reducible repeat (first | apply Kd.S_alloc | apply Kd.S_drewN | apply Kd.S_drew)); exact HO.out); rintro e w8 ⟨rfl, hb, hk⟩; refine ⟨_, rfl, ?_⟩; have n1_ := Aside0.mk hb; have n2_ := Aside0.mk (Kept.then_ (S := P0_1_) (show Kept w _ P0_1_ by repeat (first | (with_reducible first | exact HK.out | apply Kept.alloc | apply Kept.drewN | apply Kept.drew) | exact HK.out)) hk (fun k_ h_ => .inl h_)); clear HB; clear HK; have HB := n1_; have HK := n2_; clear n1_ n2_; clear hb hk))
  go_ret
  exact ⟨by first | rfl | (simp [errW_none, errW_some] <;> rfl) | (simp [*, errW_none, errW_some] <;> rfl), by repeat (first | (with_reducible first | exact HB.out | apply below_alloc | apply pw_below_drewN | apply below_drew1) | exact HB.out), by repeat (first | (with_reducible first | exact HK.out | apply Kept.alloc | apply Kept.drewN | apply Kept.drew) | exact HK.out)⟩

/-! ### impl_setsOf: function 87 -/
def impl_setsOf.l0 : Nat → List (List Int) → List Int → Int → Int → Option ((List (List Int)))
  | 0, _, _, _, _ => none
  | k + 1, x3, x6, x7, x8 => if x8 < x7 then (if 0 ≤ x8 then (if x8 < (x6.length : Int) then ((impl_setOf.f k (rd x6 x8)).bind fun t239 => (if x3.length < 5864062014805 then (impl_setsOf.l0 k (x3 ++ [t239]) x6 x7 (wrap64 (x8 + 1))) else (none))) else (none)) else (none)) else (some x3)
def impl_setsOf.f (k : Nat) (l0 : List Int) : Option ((List (List Int))) := impl_setsOf.l0 k ([] : List (List Int)) l0 (l0.length : Int) 0
set_option maxHeartbeats 8000000 in
set_option maxRecDepth 100000 in
theorem impl_setsOf.calls (k : Nat) (A0 : Option Addr) (c0 : Nat) (l0 : List Int) (r : List (List Int)) (w : World) (hr0 : Kd.C (Kd.int .i64) w A0 l0.length l0) (hc0 : l0.length ≤ c0) (h : impl_setsOf.f k l0 = some r) :
    Calls Try.prog 87 #[.slice A0 l0.length c0] w fun e w' => ∃ v0_ : Value, e = .returned (v0_) ∧ Kd.S (Kd.slice 3 (Kd.int .i64)) 25 w' w.heap.size (fun _ => True) v0_ r ∧ Below w.heap.size w w' := by
  have HR0 := q_ hr0; have HC0 := q_ hc0; clear hr0 hc0; have HB := q_ (Below.refl w.heap.size w); have H : (impl_setsOf.l0 k ([] : List (List Int)) l0 (l0.length : Int) 0) = some r := h; clear h; have H' := q_ H; clear H; go_enter Try.func87, Try.ntmps87; go_wp2; go_loopg [3, 8] k (fun kq v3 v8 w' => ∃ (x3_1 : List (List Int)) (x8_1 : Int), v8 = .int .i64 x8_1 ∧ Aside0 (impl_setsOf.l0 kq x3_1 l0 (l0.length : Int) x8_1 = some r) ∧ Aside0 (kq ≤ k) ∧ Aside0 (Kd.S (Kd.slice 3 (Kd.int .i64)) 25 w' w.heap.size (fun _ => True) v3 x3_1) ∧ Aside0 (Below w.heap.size w w'))
  case atStart => exact ⟨(([] : List (List Int))), (0), (by first | rfl | (simp; done) | (simp [*]; done)), H', ⟨Nat.le_refl _⟩, ⟨by first | exact Kd.S_nil _ _ _ _ _ | exact Kd.N_nil _ _ _ _ _ | exact Kd.V_nil _ _ _ _ _ | exact Kd.Q_nil _ _ _ _ _ | exact Kd.R_nil _ _ _ _ _⟩, ⟨by exact bv HB.out⟩⟩
  case round =>
   clear H'; obtain ⟨x3_1, x8_1, rfl, HA, HK1, HO_3, HB⟩ := hrel
   cases gk with
   | zero => exact absurd HA.out (by simp [impl_setsOf.l0])
   | succ k1 =>
    have H := HA.out; clear HA; simp only [impl_setsOf.l0] at H
    by_cases c2 : x8_1 < (l0.length : Int)
    ·rw [if_pos c2] at H; have c2b0 : decide (x8_1 < (l0.length : Int)) = true := decide_eq_true c2; clear c2
     by_cases c3 : 0 ≤ x8_1
     case neg => rw [if_neg c3] at H; exact absurd H (by simp)
     rw [if_pos c3] at H; have c3b0 : decide (0 ≤ x8_1) = true := decide_eq_true c3; clear c3
     by_cases c4 : x8_1 < (l0.length : Int)
     case neg => rw [if_neg c4] at H; exact absurd H (by simp)
     rw [if_pos c4] at H; have c4b0 : decide (x8_1 < (l0.length : Int)) = true := decide_eq_true c4; clear c4; replace H := Option.bind_eq_some_iff.mp H; obtain ⟨t239, A50, H⟩ := H; replace H : (if x3_1.length < 5864062014805 then (impl_setsOf.l0 k1 (x3_1 ++ [t239]) l0 (l0.length : Int) (wrap64 (x8_1 + 1))) else (none)) = some r := H; have A5 := q_ A50; clear A50
     by_cases c6 : x3_1.length < 5864062014805
     case neg => rw [if_neg c6] at H; exact absurd H (by simp)
     rw [if_pos c6] at H; have LMc6 := q_ c6; clear c6; obtain ⟨y242, hy242⟩ : ∃ y_ : List (List Int), y_ = (x3_1 ++ [t239]) := ⟨_, rfl⟩; (replace H : (impl_setsOf.l0 k1 y242 l0 (l0.length : Int) (wrap64 (x8_1 + 1))) = some r := by first | (rw [hy242]; with_reducible exact H) | (have H2_ := (Option.bind_some _ _).symm.trans H; rw [hy242]; with_reducible exact H2_) | (have H2_ := (Option.bind_some _ _).symm.trans H; with_reducible exact H2_) | with_reducible exact H | (rw [hy242]; exact H) | exact H); have Ny242 := q_ hy242; clear hy242; have H' := q_ H; clear H; have p238 : 0 ≤ (x8_1 : Int) := od; have q238 : x8_1 < (l0.length : Int) := od; obtain ⟨ad238, e238, hx238_0⟩ := Kd.at_int HR0.out x8_1 p238 q238
     cases e238
     replace hx238_0 := cb_ HB.out hx238_0; replace p238 := eq_true p238; replace q238 := eq_true q238; go_wp2_with (first | ((with_reducible refine gate_callee (f := 83) rfl ?_); refine goesM (some 14) rfl rfl Try.func83 #[.int .i64 (rd l0 x8_1)] rfl ?_; (with_reducible refine (impl_setOf.calls k1 (rd l0 x8_1) t239 _ A5.out).mono ?_); rintro e w7 ⟨v240, rfl, ho0, hb⟩; refine ⟨_, rfl, ?_⟩; replace HO_3 := q_ (Kd.S_elder' (by exact Kd.S_v HO_3.out) (Kd.R_base ho0) hb); have HO241 := q_ (Kd.R_lower ho0 (below_size (by exact bv HB.out))); replace HB := q_ (below_step (by exact bv HB.out) hb); (try clear hb); (try clear hb2); (try clear hk); (try clear hi); (try clear ho0); obtain ⟨Ao9, co9, eo9⟩ := Kd.R_slice HO241.out; subst eo9) | ((with_reducible refine gate_builtin (b := .append) (xs := #[.tmp 12, .tmp 15]) rfl ?_); at_builtin; refine Kd.S_append (Kd.slice 3 (Kd.int .i64)) (w0 := w) w.heap.size rfl (.tmp 12) (.tmp 15) 44 25 (.slice none 0 0) 24 rfl Try.underlying44 info25 rfl (by decide) (by omega) u3 x3_1 t239 [.slice Ao9 t239.length co9] (fun _ => True) (fun k_ => some k_ = (.slice Ao9 t239.length co9 : Value).ownBlock) rfl rfl ?aP (fun k_ hk_ => ((Kd.R_mono (ok' := fun k_ => ((fun _ => True)) k_ ∧ some k_ ≠ (u3 : Value).ownBlock) (Kd.R_apart' (HO241.out) (Kd.S_typed HO_3.out) (by decide)) (fun k_ hk => ⟨trivial, hk.2⟩))).1 k_ hk_.symm) ?aF ?aO ?aB ?aS ?aL ?_; (case aP => exact Kd.M_row (Kd.R_mono (Kd.R_tight rfl (Kd.R_mono (ok' := fun k_ => ((fun _ => True)) k_ ∧ some k_ ≠ (u3 : Value).ownBlock) (Kd.R_apart' (HO241.out) (Kd.S_typed HO_3.out) (by decide)) (fun k_ hk => ⟨trivial, hk.2⟩))) (fun _ h_ => h_))); (case aB => exact (by exact bv HB.out)); (case aF => exact (fun _ _ => trivial)); (case aO => exact (by (with_reducible repeat (first | apply Kd.S_alloc | apply Kd.S_drewN | apply Kd.S_drew)); exact Kd.S_mono HO_3.out (fun k_ hk => ⟨trivial, fun e_ => hk.2 e_⟩))); (case aS => exact (below_size (by exact bv HB.out))); (case aL => have := LMc6.out; omega); intro v243 w8 ho hb hg hat; rw [← Ny242.out] at ho; replace HB := q_ (hb); have HO244 := q_ (ho); clear HO_3; clear HO241; clear ho hb hg hat)); go_roundg k1
     case measure => have := HK1.out; omega
     case rel => exact ⟨(y242), (wrap64 (x8_1 + 1)), (by first | rfl | (simp; done) | (simp [*]; done)), H', ⟨by have := HK1.out; omega⟩, ⟨by exact Kd.S_v HO244.out⟩, ⟨by exact bv HB.out⟩⟩
    ·rw [if_neg c2] at H; have c2b0 : decide (x8_1 < (l0.length : Int)) = false := decide_eq_false c2; clear c2; obtain rfl := Option.some.inj H; go_wp2; go_ret; exact ⟨_, by first | rfl | (simp [errW_none, errW_some] <;> rfl) | (simp [*, errW_none, errW_some] <;> rfl), by exact Kd.S_v HO_3.out, by exact bv HB.out⟩

/-! ### laws_eqIntSS: function 43 -/
def laws_eqIntSS.l0 : Nat → List (List Int) → List (List Int) → Int → Option (Bool)
  | 0, _, _, _ => none
  | k + 1, x0, x1, x5 => if x5 < (x0.length : Int) then (if 0 ≤ x5 then (if x5 < (x1.length : Int) then ((laws_eqIntS.f k (rd_L1 x0 x5) (rd_L1 x1 x5)).bind fun t265 => (if t265 = true then (laws_eqIntSS.l0 k x0 x1 (wrap64 (x5 + 1))) else (some false))) else (none)) else (none)) else (some true)
def laws_eqIntSS.f (k : Nat) (l0 : List (List Int)) (l1 : List (List Int)) : Option (Bool) := if (l0.length : Int) = (l1.length : Int) then (laws_eqIntSS.l0 k l0 l1 0) else (some false)
set_option maxHeartbeats 8000000 in
set_option maxRecDepth 100000 in
theorem laws_eqIntSS.calls (k : Nat) (A0 : Option Addr) (c0 : Nat) (l0 : List (List Int)) (A1 : Option Addr) (c1 : Nat) (l1 : List (List Int)) (r : Bool) (w : World) (hr0 : Kd.C (Kd.slice 3 (Kd.int .i64)) w A0 l0.length l0) (hc0 : l0.length ≤ c0) (hr1 : Kd.C (Kd.slice 3 (Kd.int .i64)) w A1 l1.length l1) (hc1 : l1.length ≤ c1) (h : laws_eqIntSS.f k l0 l1 = some r) :
    Calls Try.prog 43 #[.slice A0 l0.length c0, .slice A1 l1.length c1] w fun e w' => e = .returned (.bool r) ∧ Drawn0 w w' := by
  have HR0 := q_ hr0; have HC0 := q_ hc0; clear hr0 hc0; have HR1 := q_ hr1; have HC1 := q_ hc1; clear hr1 hc1; have H : (if (l0.length : Int) = (l1.length : Int) then (laws_eqIntSS.l0 k l0 l1 0) else (some false)) = some r := h; clear h
  by_cases c3 : (l0.length : Int) = (l1.length : Int)
  ·rw [if_pos c3] at H; have c3b0 : ((l0.length : Int) == (l1.length : Int)) = true := beq_iff_eq.mpr c3; have c3b1 : ((l0.length : Int) != (l1.length : Int)) = false := bne_eq_false_iff_eq.mpr c3; (have c3b2 : (l0.length == l1.length) = true := by first | simpa using c3 | (simp at c3 ⊢; omega)); clear c3; have H' := q_ H; clear H; go_enter Try.func43, Try.ntmps43; go_wp2; (repeat (go_quiet (fail); try go_wp2)); go_loopg [5] k (fun kq v5 w' => ∃ (x5_1 : Int), v5 = .int .i64 x5_1 ∧ Aside0 (laws_eqIntSS.l0 kq l0 l1 x5_1 = some r) ∧ Aside0 (kq ≤ k) ∧ Drawn0 w w')
   case atStart => exact ⟨(0), (by first | rfl | (simp; done) | (simp [*]; done)), H', ⟨Nat.le_refl _⟩, by repeat (first | exact Drawn0.refl _ | apply Drawn0.step)⟩
   case round =>
    clear H'; (try clear c1); (try clear p2); (try clear c3); (try clear c3b0); (try clear c3b1); (try clear c3b2); obtain ⟨x5_1, rfl, HA, HK1, ⟨m1, rfl⟩⟩ := hrel
    cases gk with
    | zero => exact absurd HA.out (by simp [laws_eqIntSS.l0])
    | succ k1 =>
     have H := HA.out; clear HA; simp only [laws_eqIntSS.l0] at H
     by_cases c4 : x5_1 < (l0.length : Int)
     ·rw [if_pos c4] at H; have c4b0 : decide (x5_1 < (l0.length : Int)) = true := decide_eq_true c4; clear c4
      by_cases c5 : 0 ≤ x5_1
      case neg => rw [if_neg c5] at H; exact absurd H (by simp)
      rw [if_pos c5] at H; have c5b0 : decide (0 ≤ x5_1) = true := decide_eq_true c5; clear c5
      by_cases c6 : x5_1 < (l1.length : Int)
      case neg => rw [if_neg c6] at H; exact absurd H (by simp)
      rw [if_pos c6] at H; have c6b0 : decide (x5_1 < (l1.length : Int)) = true := decide_eq_true c6; clear c6; replace H := Option.bind_eq_some_iff.mp H; obtain ⟨t265, A70, H⟩ := H; replace H : (if t265 = true then (laws_eqIntSS.l0 k1 l0 l1 (wrap64 (x5_1 + 1))) else (some false)) = some r := H; have A7 := q_ A70; clear A70
      by_cases c8 : t265 = true
      ·subst c8; (have H1 : (laws_eqIntSS.l0 k1 l0 l1 (wrap64 (x5_1 + 1))) = some r := by rw [if_pos rfl] at H; exact H); clear H; have H := H1; clear H1; have H' := q_ H; clear H; have p263 : 0 ≤ (x5_1 : Int) := od; have q263 : x5_1 < (l0.length : Int) := od; obtain ⟨ad263, A263_0, c263_0, e263, hx263_0, hl263_0, hi263_0⟩ := at_L1 HR0.out x5_1 p263 q263
       cases e263
       have HR263_0 := q_ hi263_0; have HC263_0 := q_ hl263_0; clear hi263_0 hl263_0; replace p263 := eq_true p263; replace q263 := eq_true q263; have p264 : 0 ≤ (x5_1 : Int) := od; have q264 : x5_1 < (l1.length : Int) := od; obtain ⟨ad264, A264_0, c264_0, e264, hx264_0, hl264_0, hi264_0⟩ := at_L1 HR1.out x5_1 p264 q264
       cases e264
       have HR264_0 := q_ hi264_0; have HC264_0 := q_ hl264_0; clear hi264_0 hl264_0; replace p264 := eq_true p264; replace q264 := eq_true q264; go_wp2_with (first | (go_at_call 21; (with_reducible refine (laws_eqIntS.calls k1 _ _ (rd_L1 l0 x5_1) _ _ (rd_L1 l1 x5_1) true _ ?side1 ?side2 ?side3 ?side4 A7.out).mono ?_); (case side1 => exact Kd.C_v HR263_0.out); (case side2 => exact HC263_0.out); (case side3 => exact Kd.C_v HR264_0.out); (case side4 => exact HC264_0.out); rintro e w' ⟨rfl, ⟨nd, rfl⟩⟩; (try first | exact ⟨rfl, _, World.drewN_drewN _ _ _⟩ | exact ⟨rfl, _, Eq.trans (World.drewN_drewN _ _ _) (congrArg (World.drewN _) (Nat.add_assoc _ _ _))⟩))); (repeat (go_quiet (first | (go_at_call 21; (with_reducible refine (laws_eqIntS.calls k1 _ _ (rd_L1 l0 x5_1) _ _ (rd_L1 l1 x5_1) true _ ?side1 ?side2 ?side3 ?side4 A7.out).mono ?_); (case side1 => exact Kd.C_v HR263_0.out); (case side2 => exact HC263_0.out); (case side3 => exact Kd.C_v HR264_0.out); (case side4 => exact HC264_0.out); rintro e w' ⟨rfl, ⟨nd, rfl⟩⟩; (try first | exact ⟨rfl, _, World.drewN_drewN _ _ _⟩ | exact ⟨rfl, _, Eq.trans (World.drewN_drewN _ _ _) (congrArg (World.drewN _) (Nat.add_assoc _ _ _))⟩))); try go_wp2_with (first | (go_at_call 21; (with_reducible refine (laws_eqIntS.calls k1 _ _ (rd_L1 l0 x5_1) _ _ (rd_L1 l1 x5_1) true _ ?side1 ?side2 ?side3 ?side4 A7.out).mono ?_); (case side1 => exact Kd.C_v HR263_0.out); (case side2 => exact HC263_0.out); (case side3 => exact Kd.C_v HR264_0.out); (case side4 => exact HC264_0.out); rintro e w' ⟨rfl, ⟨nd, rfl⟩⟩; (try first | exact ⟨rfl, _, World.drewN_drewN _ _ _⟩ | exact ⟨rfl, _, Eq.trans (World.drewN_drewN _ _ _) (congrArg (World.drewN _) (Nat.add_assoc _ _ _))⟩))))); go_roundg k1
       case measure => have := HK1.out; omega
       case rel => exact ⟨(wrap64 (x5_1 + 1)), (by first | rfl | (simp; done) | (simp [*]; done)), H', ⟨by have := HK1.out; omega⟩, by repeat (first | exact Drawn0.refl _ | apply Drawn0.step)⟩
      ·replace c8 := Bool.eq_false_iff.mpr c8; subst c8; (have H1 : (some false) = some r := by rw [if_neg (show ¬ (false = true) by decide)] at H; exact H); clear H; have H := H1; clear H1; obtain rfl := Option.some.inj H; have p263 : 0 ≤ (x5_1 : Int) := od; have q263 : x5_1 < (l0.length : Int) := od; obtain ⟨ad263, A263_0, c263_0, e263, hx263_0, hl263_0, hi263_0⟩ := at_L1 HR0.out x5_1 p263 q263
       cases e263
       have HR263_0 := q_ hi263_0; have HC263_0 := q_ hl263_0; clear hi263_0 hl263_0; replace p263 := eq_true p263; replace q263 := eq_true q263; have p264 : 0 ≤ (x5_1 : Int) := od; have q264 : x5_1 < (l1.length : Int) := od; obtain ⟨ad264, A264_0, c264_0, e264, hx264_0, hl264_0, hi264_0⟩ := at_L1 HR1.out x5_1 p264 q264
       cases e264
       have HR264_0 := q_ hi264_0; have HC264_0 := q_ hl264_0; clear hi264_0 hl264_0; replace p264 := eq_true p264; replace q264 := eq_true q264; go_wp2_with (first | (go_at_call 21; (with_reducible refine (laws_eqIntS.calls k1 _ _ (rd_L1 l0 x5_1) _ _ (rd_L1 l1 x5_1) false _ ?side1 ?side2 ?side3 ?side4 A7.out).mono ?_); (case side1 => exact Kd.C_v HR263_0.out); (case side2 => exact HC263_0.out); (case side3 => exact Kd.C_v HR264_0.out); (case side4 => exact HC264_0.out); rintro e w' ⟨rfl, ⟨nd, rfl⟩⟩; (try first | exact ⟨rfl, _, World.drewN_drewN _ _ _⟩ | exact ⟨rfl, _, Eq.trans (World.drewN_drewN _ _ _) (congrArg (World.drewN _) (Nat.add_assoc _ _ _))⟩))); (repeat (go_quiet (first | (go_at_call 21; (with_reducible refine (laws_eqIntS.calls k1 _ _ (rd_L1 l0 x5_1) _ _ (rd_L1 l1 x5_1) false _ ?side1 ?side2 ?side3 ?side4 A7.out).mono ?_); (case side1 => exact Kd.C_v HR263_0.out); (case side2 => exact HC263_0.out); (case side3 => exact Kd.C_v HR264_0.out); (case side4 => exact HC264_0.out); rintro e w' ⟨rfl, ⟨nd, rfl⟩⟩; (try first | exact ⟨rfl, _, World.drewN_drewN _ _ _⟩ | exact ⟨rfl, _, Eq.trans (World.drewN_drewN _ _ _) (congrArg (World.drewN _) (Nat.add_assoc _ _ _))⟩))); try go_wp2_with (first | (go_at_call 21; (with_reducible refine (laws_eqIntS.calls k1 _ _ (rd_L1 l0 x5_1) _ _ (rd_L1 l1 x5_1) false _ ?side1 ?side2 ?side3 ?side4 A7.out).mono ?_); (case side1 => exact Kd.C_v HR263_0.out); (case side2 => exact HC263_0.out); (case side3 => exact Kd.C_v HR264_0.out); (case side4 => exact HC264_0.out); rintro e w' ⟨rfl, ⟨nd, rfl⟩⟩; (try first | exact ⟨rfl, _, World.drewN_drewN _ _ _⟩ | exact ⟨rfl, _, Eq.trans (World.drewN_drewN _ _ _) (congrArg (World.drewN _) (Nat.add_assoc _ _ _))⟩))))); go_ret; exact ⟨by first | rfl | (simp; done) | (simp [*]; done), by repeat (first | exact Drawn0.refl _ | apply Drawn0.step)⟩
     ·rw [if_neg c4] at H; have c4b0 : decide (x5_1 < (l0.length : Int)) = false := decide_eq_false c4; clear c4; obtain rfl := Option.some.inj H; go_wp2; (repeat (go_quiet (fail); try go_wp2)); go_ret; exact ⟨by first | rfl | (simp; done) | (simp [*]; done), by repeat (first | exact Drawn0.refl _ | apply Drawn0.step)⟩
  ·rw [if_neg c3] at H; have c3b0 : ((l0.length : Int) == (l1.length : Int)) = false := beq_eq_false_iff_ne.mpr c3; have c3b1 : ((l0.length : Int) != (l1.length : Int)) = true := bne_iff_ne.mpr c3; (have c3b2 : (l0.length == l1.length) = false := by first | simpa using c3 | (simp at c3 ⊢; omega)); obtain rfl := Option.some.inj H; go_enter Try.func43, Try.ntmps43; go_wp2; (repeat (go_quiet (fail); try go_wp2)); go_ret; exact ⟨by first | rfl | (simp; done) | (simp [*]; done), by repeat (first | exact Drawn0.refl _ | apply Drawn0.step)⟩

/-! ### laws_markIntSS: function 44 -/
/-- markIntS on the row inside element i: all else stays, the element has its marks. -/
theorem laws_markIntSS.inner {w0 w : World} {g n cap kq : Nat} {P : Nat → Prop} {xs : List (List Int)} {i a1 r1 : Int} {r2 : List Int} (h0 : 0 ≤ i) (h1 : i < n) (hB : Below w0.heap.size w0 w) (hS : Kd.S (Kd.slice 3 (Kd.int .i64)) 25 w w0.heap.size P (.slice (some ⟨g, 0, none⟩) n cap) xs) (h : laws_markIntS.f kq (rd_L1 xs i) a1 = some (r1, r2)) :
    ∃ v, w.cell? ⟨g, i.toNat, none⟩ = some v ∧ Calls Try.prog 29 #[v, .int .i64 a1] w fun e w' => e = .returned (.int .i64 r1) ∧ Kd.S (Kd.slice 3 (Kd.int .i64)) 25 w' w0.heap.size P (.slice (some ⟨g, 0, none⟩) n cap) (xs.set i.toNat r2) ∧ Below w0.heap.size w0 w' ∧ Kept w w' P := by
  obtain ⟨oki, c, hcl, hM, hcc, hoki, hH⟩ := Kd.S_lend hS [] i h0 h1
  obtain ⟨v, rfl, hR⟩ := hM
  refine ⟨v, by have h2 := hcc 0 v rfl; rw [show (Kd.slice 3 (Kd.int .i64)).sz = 1 from rfl, Nat.mul_one, Nat.add_zero] at h2; exact h2, (laws_markIntS.calls kq oki v _ a1 r1 r2 w0 w hB hR h).mono ?_⟩
  rintro e w' ⟨he, hR', hb, hk⟩
  exact ⟨he, Kd.H_back (Kd.H_kept hH hk (fun k _ hn => hn)) (⟨v, rfl, Kd.R_reok rfl hR' (fun k e => hR.1 k e)⟩ : (Kd.slice 3 (Kd.int .i64)).M w' w0.heap.size oki r2 [v]) (fun _ h => h), hb, hk.mono (fun k h => (hoki k h).1)⟩
def laws_markIntSS.l0 : Nat → List (List Int) → Int → Int → Option (Int × List (List Int))
  | 0, _, _, _ => none
  | k + 1, x0, x1, x5 => if x5 < (x0.length : Int) then (if 0 ≤ x5 then ((laws_markIntS.f k (rd_L1 x0 x5) x1).bind fun p => (laws_markIntSS.l0 k (x0.set (x5 : Int).toNat p.2) p.1 (wrap64 (x5 + 1)))) else (none)) else (some (x1, x0))
def laws_markIntSS.f (k : Nat) (l0 : List (List Int)) (a1 : Int) : Option (Int × List (List Int)) := laws_markIntSS.l0 k l0 a1 0
set_option maxHeartbeats 8000000 in
set_option maxRecDepth 100000 in
theorem laws_markIntSS.calls (k : Nat) (P0_ : Nat → Prop) (u9000_ : Value) (l0 : List (List Int)) (a1 : Int) (r1 : Int) (r2 : List (List Int)) (w0 w : World) (hB : Below w0.heap.size w0 w) (ho0 : Kd.S (Kd.slice 3 (Kd.int .i64)) 25 w w0.heap.size P0_ u9000_ l0) (h : laws_markIntSS.f k l0 a1 = some (r1, r2)) :
    Calls Try.prog 44 #[u9000_, .int .i64 a1] w fun e w' => e = .returned (.int .i64 r1) ∧ Kd.S (Kd.slice 3 (Kd.int .i64)) 25 w' w0.heap.size P0_ u9000_ r2 ∧ Below w0.heap.size w0 w' ∧ Kept w w' (fun k_ => P0_ k_) := by
  obtain ⟨Ao, co, eo⟩ := Kd.S_slice ho0
  subst eo
  have hgo : l0.length = 0 ∨ ∃ go, Ao = some ⟨go, 0, none⟩ := by
    by_cases hz : l0.length = 0
    · exact .inl hz
    · obtain ⟨g, cap, e, _⟩ := Kd.S_form ho0 (by omega)
      injection e with e1 _ _
      exact .inr ⟨g, e1⟩
  have HK := Aside0.mk (Kept.refl w P0_)
  have HB := Aside0.mk hB
  have H : (laws_markIntSS.l0 k l0 a1 0) = some (r1, r2) := h
  clear h
  have H' := Aside0.mk H
  clear H
  have HS := Aside0.mk ho0
  clear hB ho0
  obtain ⟨nl, hnl⟩ : ∃ nl, nl = l0.length := ⟨_, rfl⟩
  rw [← hnl] at HS hgo
  rw [← hnl]
  clear hnl
  go_enter Try.func44, Try.ntmps44
  go_wp2
  go_loopg [1, 5] k (fun kq v1 v5 w' => ∃ (x0_1 : List (List Int)) (x1_1 : Int) (x5_1 : Int), v1 = .int .i64 x1_1 ∧ v5 = .int .i64 x5_1 ∧ Aside0 (laws_markIntSS.l0 kq x0_1 x1_1 x5_1 = some (r1, r2)) ∧ Aside0 (kq ≤ k) ∧ Aside0 (Kd.S (Kd.slice 3 (Kd.int .i64)) 25 w' w0.heap.size P0_ (.slice Ao nl co) x0_1) ∧ Aside0 (Kept w w' P0_) ∧ Aside0 (Below w0.heap.size w0 w'))
  case atStart => exact ⟨(l0), (a1), (0), (by first | rfl | (simp; done) | (simp [*]; done)), (by first | rfl | (simp; done) | (simp [*]; done)), H', ⟨Nat.le_refl _⟩, ⟨by (with_reducible repeat (first | apply Kd.S_alloc | apply Kd.S_drewN | apply Kd.S_drew)); exact HS.out⟩, ⟨by repeat (first | (with_reducible first | exact HK.out | apply Kept.alloc | apply Kept.drewN | apply Kept.drew) | exact HK.out)⟩, ⟨by repeat (first | (with_reducible first | exact HB.out | apply below_alloc | apply pw_below_drewN | apply below_drew1) | exact HB.out)⟩⟩
  case round =>
    clear H' HS HK HB
    try clear c1
    try clear p2
    obtain ⟨x0_1, x1_1, x5_1, rfl, rfl, HA, HK1, HS, HK, HB⟩ := hrel
    have hlen := (Kd.S_reads' HS.out).1
    cases gk with
    | zero => exact absurd HA.out (by simp [laws_markIntSS.l0])
    | succ k1 =>
      have H := HA.out
      clear HA
      simp only [laws_markIntSS.l0] at H
      rw [← hlen] at H
      clear hlen
      by_cases c3 : x5_1 < (nl : Int)
      · rw [if_pos c3] at H
        have c3b0 : decide (x5_1 < (nl : Int)) = true := decide_eq_true c3
        by_cases c4 : 0 ≤ x5_1
        · rw [if_pos c4] at H
          have c4b0 : decide (0 ≤ x5_1) = true := decide_eq_true c4
          replace H := Option.bind_eq_some_iff.mp H
          obtain ⟨⟨p1, p2⟩, A0, H⟩ := H
          have H' := Aside0.mk H
          clear H
          obtain ⟨go, rfl⟩ := hgo.resolve_left (by omega)
          obtain ⟨v0, hx0, hcall⟩ := laws_markIntSS.inner c4 c3 HB.out HS.out A0
          have HC := Aside0.mk hcall
          clear hcall A0
          clear c3 c4
          have p5 : 0 ≤ (x5_1 : Int) := of_decide_eq_true (by first | (with_reducible assumption) | assumption)
          have q5 : (x5_1 : Int) < (nl : Int) := of_decide_eq_true (by first | (with_reducible assumption) | assumption)
          replace p5 := eq_true p5
          replace q5 := eq_true q5
          go_wp2_with (first | ((with_reducible refine gate_callee (f := 29) rfl ?_); refine goesL_ (some 17) rfl rfl Try.func29 (by kernel_rfl) rfl #[v0, .int .i64 x1_1] rfl (by (try simp only [List.map_toArray, List.map_cons, List.map_nil]); first | done | rfl) ?_; (refine HC.out.mono ?_); rintro e w8 ⟨rfl, hS, hb, hk⟩; refine ⟨_, rfl, ?_⟩; have n0_ := Aside0.mk hS; have n1_ := Aside0.mk hb; have n2_ := Aside0.mk (Kept.then_ HK.out hk (fun k_ h_ => .inl h_)); clear HS; clear HB; clear HK; have HS := n0_; have HB := n1_; have HK := n2_; clear n0_ n1_ n2_; clear hS hb hk))
          go_roundg k1
          case measure => have := HK1.out; omega
          case rel => exact ⟨(x0_1.set (x5_1 : Int).toNat p2), (p1), (wrap64 (x5_1 + 1)), (by first | rfl | (simp; done) | (simp [*]; done)), (by first | rfl | (simp; done) | (simp [*]; done)), H', ⟨by have := HK1.out; omega⟩, ⟨by (with_reducible repeat (first | apply Kd.S_alloc | apply Kd.S_drewN | apply Kd.S_drew)); exact HS.out⟩, ⟨by repeat (first | (with_reducible first | exact HK.out | apply Kept.alloc | apply Kept.drewN | apply Kept.drew) | exact HK.out)⟩, ⟨by repeat (first | (with_reducible first | exact HB.out | apply below_alloc | apply pw_below_drewN | apply below_drew1) | exact HB.out)⟩⟩
        · rw [if_neg c4] at H
          exact absurd H (by simp)
      · rw [if_neg c3] at H
        have c3b0 : decide (x5_1 < (nl : Int)) = false := decide_eq_false c3
        clear c3
        simp only [Option.some.injEq, Prod.mk.injEq] at H
        obtain ⟨rfl, rfl⟩ := H
        go_wp2
        go_ret
        exact ⟨by first | rfl | (simp [errW_none, errW_some] <;> rfl) | (simp [*, errW_none, errW_some] <;> rfl), by (with_reducible repeat (first | apply Kd.S_alloc | apply Kd.S_drewN | apply Kd.S_drew)); exact HS.out, by repeat (first | (with_reducible first | exact HB.out | apply below_alloc | apply pw_below_drewN | apply below_drew1) | exact HB.out), by repeat (first | (with_reducible first | exact HK.out | apply Kept.alloc | apply Kept.drewN | apply Kept.drew) | exact HK.out)⟩

/-! ### laws_heldIntS: function 30 -/
def laws_heldIntS.l0 : Nat → List Int → Int → Int → Option (Int)
  | 0, _, _, _ => none
  | k + 1, x0, x1, x5 => if x5 < (x0.length : Int) then (if 0 ≤ x5 then (if (rd x0 x5) = x1 then (laws_heldIntS.l0 k x0 (wrap64 (x1 + 1)) (wrap64 (x5 + 1))) else (some (-1))) else (none)) else (some x1)
def laws_heldIntS.f (k : Nat) (l0 : List Int) (a1 : Int) : Option (Int) := laws_heldIntS.l0 k l0 a1 0
set_option maxHeartbeats 8000000 in
set_option maxRecDepth 100000 in
theorem laws_heldIntS.calls (k : Nat) (A0 : Option Addr) (c0 : Nat) (l0 : List Int) (a1 : Int) (r : Int) (w : World) (hr0 : Kd.C (Kd.int .i64) w A0 l0.length l0) (hc0 : l0.length ≤ c0) (h : laws_heldIntS.f k l0 a1 = some r) :
    Calls Try.prog 30 #[.slice A0 l0.length c0, .int .i64 a1] w fun e w' => e = .returned (.int .i64 r) ∧ Drawn0 w w' := by
  have HR0 := q_ hr0; have HC0 := q_ hc0; clear hr0 hc0; have H : (laws_heldIntS.l0 k l0 a1 0) = some r := h; clear h; have H' := q_ H; clear H; go_enter Try.func30, Try.ntmps30; go_wp2; go_loopg [1, 5] k (fun kq v1 v5 w' => ∃ (x1_1 : Int) (x5_1 : Int), v1 = .int .i64 x1_1 ∧ v5 = .int .i64 x5_1 ∧ Aside0 (laws_heldIntS.l0 kq l0 x1_1 x5_1 = some r) ∧ Aside0 (kq ≤ k) ∧ Drawn0 w w')
  case atStart => exact ⟨(a1), (0), (by first | rfl | (simp; done) | (simp [*]; done)), (by first | rfl | (simp; done) | (simp [*]; done)), H', ⟨Nat.le_refl _⟩, by repeat (first | exact Drawn0.refl _ | apply Drawn0.step)⟩
  case round =>
   clear H'; (try clear p2); obtain ⟨x1_1, x5_1, rfl, rfl, HA, HK1, ⟨m1, rfl⟩⟩ := hrel
   cases gk with
   | zero => exact absurd HA.out (by simp [laws_heldIntS.l0])
   | succ k1 =>
    have H := HA.out; clear HA; simp only [laws_heldIntS.l0] at H
    by_cases c3 : x5_1 < (l0.length : Int)
    ·rw [if_pos c3] at H; have c3b0 : decide (x5_1 < (l0.length : Int)) = true := decide_eq_true c3; clear c3
     by_cases c4 : 0 ≤ x5_1
     case neg => rw [if_neg c4] at H; exact absurd H (by simp)
     rw [if_pos c4] at H; have c4b0 : decide (0 ≤ x5_1) = true := decide_eq_true c4; clear c4
     by_cases c5 : (rd l0 x5_1) = x1_1
     ·rw [if_pos c5] at H; have c5b0 : ((rd l0 x5_1) == x1_1) = true := beq_iff_eq.mpr c5; have c5b1 : ((rd l0 x5_1) != x1_1) = false := bne_eq_false_iff_eq.mpr c5; clear c5; have H' := q_ H; clear H; have p266 : 0 ≤ (x5_1 : Int) := od; have q266 : x5_1 < (l0.length : Int) := od; obtain ⟨ad266, e266, hx266_0⟩ := Kd.at_int HR0.out x5_1 p266 q266
      cases e266
      replace p266 := eq_true p266; replace q266 := eq_true q266; go_wp2; go_roundg k1
      case measure => have := HK1.out; omega
      case rel => exact ⟨(wrap64 (x1_1 + 1)), (wrap64 (x5_1 + 1)), (by first | rfl | (simp; done) | (simp [*]; done)), (by first | rfl | (simp; done) | (simp [*]; done)), H', ⟨by have := HK1.out; omega⟩, by repeat (first | exact Drawn0.refl _ | apply Drawn0.step)⟩
     ·rw [if_neg c5] at H; have c5b0 : ((rd l0 x5_1) == x1_1) = false := beq_eq_false_iff_ne.mpr c5; have c5b1 : ((rd l0 x5_1) != x1_1) = true := bne_iff_ne.mpr c5; obtain rfl := Option.some.inj H; have p266 : 0 ≤ (x5_1 : Int) := od; have q266 : x5_1 < (l0.length : Int) := od; obtain ⟨ad266, e266, hx266_0⟩ := Kd.at_int HR0.out x5_1 p266 q266
      cases e266
      replace p266 := eq_true p266; replace q266 := eq_true q266; go_wp2; go_ret; exact ⟨by first | rfl | (simp; done) | (simp [*]; done), by repeat (first | exact Drawn0.refl _ | apply Drawn0.step)⟩
    ·rw [if_neg c3] at H; have c3b0 : decide (x5_1 < (l0.length : Int)) = false := decide_eq_false c3; clear c3; obtain rfl := Option.some.inj H; go_wp2; go_ret; exact ⟨by first | rfl | (simp; done) | (simp [*]; done), by repeat (first | exact Drawn0.refl _ | apply Drawn0.step)⟩

/-! ### laws_heldIntSS: function 45 -/
def laws_heldIntSS.l0 : Nat → List (List Int) → Int → Int → Option (Int)
  | 0, _, _, _ => none
  | k + 1, x0, x1, x5 => if x5 < (x0.length : Int) then (if 0 ≤ x5 then ((laws_heldIntS.f k (rd_L1 x0 x5) x1).bind fun t268 => (if t268 < 0 then (some (-1)) else (laws_heldIntSS.l0 k x0 t268 (wrap64 (x5 + 1))))) else (none)) else (some x1)
def laws_heldIntSS.f (k : Nat) (l0 : List (List Int)) (a1 : Int) : Option (Int) := laws_heldIntSS.l0 k l0 a1 0
set_option maxHeartbeats 8000000 in
set_option maxRecDepth 100000 in
theorem laws_heldIntSS.calls (k : Nat) (A0 : Option Addr) (c0 : Nat) (l0 : List (List Int)) (a1 : Int) (r : Int) (w : World) (hr0 : Kd.C (Kd.slice 3 (Kd.int .i64)) w A0 l0.length l0) (hc0 : l0.length ≤ c0) (h : laws_heldIntSS.f k l0 a1 = some r) :
    Calls Try.prog 45 #[.slice A0 l0.length c0, .int .i64 a1] w fun e w' => e = .returned (.int .i64 r) ∧ Drawn0 w w' := by
  have HR0 := q_ hr0; have HC0 := q_ hc0; clear hr0 hc0; have H : (laws_heldIntSS.l0 k l0 a1 0) = some r := h; clear h; have H' := q_ H; clear H; go_enter Try.func45, Try.ntmps45; go_wp2; go_loopg [1, 5] k (fun kq v1 v5 w' => ∃ (x1_1 : Int) (x5_1 : Int), v1 = .int .i64 x1_1 ∧ v5 = .int .i64 x5_1 ∧ Aside0 (laws_heldIntSS.l0 kq l0 x1_1 x5_1 = some r) ∧ Aside0 (kq ≤ k) ∧ Drawn0 w w')
  case atStart => exact ⟨(a1), (0), (by first | rfl | (simp; done) | (simp [*]; done)), (by first | rfl | (simp; done) | (simp [*]; done)), H', ⟨Nat.le_refl _⟩, by repeat (first | exact Drawn0.refl _ | apply Drawn0.step)⟩
  case round =>
   clear H'; (try clear p2); obtain ⟨x1_1, x5_1, rfl, rfl, HA, HK1, ⟨m1, rfl⟩⟩ := hrel
   cases gk with
   | zero => exact absurd HA.out (by simp [laws_heldIntSS.l0])
   | succ k1 =>
    have H := HA.out; clear HA; simp only [laws_heldIntSS.l0] at H
    by_cases c3 : x5_1 < (l0.length : Int)
    ·rw [if_pos c3] at H; have c3b0 : decide (x5_1 < (l0.length : Int)) = true := decide_eq_true c3; clear c3
     by_cases c4 : 0 ≤ x5_1
     case neg => rw [if_neg c4] at H; exact absurd H (by simp)
     rw [if_pos c4] at H; have c4b0 : decide (0 ≤ x5_1) = true := decide_eq_true c4; clear c4; replace H := Option.bind_eq_some_iff.mp H; obtain ⟨t268, A50, H⟩ := H; replace H : (if t268 < 0 then (some (-1)) else (laws_heldIntSS.l0 k1 l0 t268 (wrap64 (x5_1 + 1)))) = some r := H; have A5 := q_ A50; clear A50
     by_cases c6 : t268 < 0
     ·rw [if_pos c6] at H; have c6b0 : decide (t268 < 0) = true := decide_eq_true c6; clear c6; obtain rfl := Option.some.inj H; have p267 : 0 ≤ (x5_1 : Int) := od; have q267 : x5_1 < (l0.length : Int) := od; obtain ⟨ad267, A267_0, c267_0, e267, hx267_0, hl267_0, hi267_0⟩ := at_L1 HR0.out x5_1 p267 q267
      cases e267
      have HR267_0 := q_ hi267_0; have HC267_0 := q_ hl267_0; clear hi267_0 hl267_0; replace p267 := eq_true p267; replace q267 := eq_true q267; go_wp2_with (first | ((with_reducible refine gate_callee (f := 30) rfl ?_); refine goesM (some 17) rfl rfl Try.func30 #[.slice A267_0 (rd_L1 l0 x5_1).length c267_0, .int .i64 x1_1] rfl ?_; (with_reducible refine (laws_heldIntS.calls k1 _ _ (rd_L1 l0 x5_1) x1_1 t268 _ ?side1 ?side2 A5.out).mono ?_); (case side1 => exact Kd.C_v HR267_0.out); (case side2 => exact HC267_0.out); rintro e w' ⟨rfl, ⟨nd, rfl⟩⟩; refine ⟨_, rfl, ?_⟩)); go_ret; exact ⟨by first | rfl | (simp; done) | (simp [*]; done), by repeat (first | exact Drawn0.refl _ | apply Drawn0.step)⟩
     ·rw [if_neg c6] at H; have c6b0 : decide (t268 < 0) = false := decide_eq_false c6; clear c6; have H' := q_ H; clear H; have p267 : 0 ≤ (x5_1 : Int) := od; have q267 : x5_1 < (l0.length : Int) := od; obtain ⟨ad267, A267_0, c267_0, e267, hx267_0, hl267_0, hi267_0⟩ := at_L1 HR0.out x5_1 p267 q267
      cases e267
      have HR267_0 := q_ hi267_0; have HC267_0 := q_ hl267_0; clear hi267_0 hl267_0; replace p267 := eq_true p267; replace q267 := eq_true q267; go_wp2_with (first | ((with_reducible refine gate_callee (f := 30) rfl ?_); refine goesM (some 17) rfl rfl Try.func30 #[.slice A267_0 (rd_L1 l0 x5_1).length c267_0, .int .i64 x1_1] rfl ?_; (with_reducible refine (laws_heldIntS.calls k1 _ _ (rd_L1 l0 x5_1) x1_1 t268 _ ?side1 ?side2 A5.out).mono ?_); (case side1 => exact Kd.C_v HR267_0.out); (case side2 => exact HC267_0.out); rintro e w' ⟨rfl, ⟨nd, rfl⟩⟩; refine ⟨_, rfl, ?_⟩)); go_roundg k1
      case measure => have := HK1.out; omega
      case rel => exact ⟨(t268), (wrap64 (x5_1 + 1)), (by first | rfl | (simp; done) | (simp [*]; done)), (by first | rfl | (simp; done) | (simp [*]; done)), H', ⟨by have := HK1.out; omega⟩, by repeat (first | exact Drawn0.refl _ | apply Drawn0.step)⟩
    ·rw [if_neg c3] at H; have c3b0 : decide (x5_1 < (l0.length : Int)) = false := decide_eq_false c3; clear c3; obtain rfl := Option.some.inj H; go_wp2; go_ret; exact ⟨by first | rfl | (simp; done) | (simp [*]; done), by repeat (first | exact Drawn0.refl _ | apply Drawn0.step)⟩

end Go.Proofs.Ytffdacmdgfpnmaa.F
