/- The walk of the reference's Down. -/
import Derived.Test.YtdiogipdcpiffaaNRefD
set_option linter.unusedVariables false
set_option maxHeartbeats 400000
set_option maxRecDepth 10000
namespace Go.Proofs.Ytdiogipdcpiffaa
open Go.RowKit

def pairC (p : Int × Int) : List Value := [.int .i64 p.1, .int .i64 p.2]
theorem pairs_len (l : List (Int × Int)) : (l.flatMap pairC).length = l.length * 2 := by
  induction l with
  | nil => rfl
  | cons a l ih => rw [List.flatMap_cons, List.length_append, ih, List.length_cons]; simp [pairC]; omega
theorem append_pair (w : World) (base : Nat) (v : Value) (l : List (Int × Int)) (ty : TypeId) (hw : Win w base 2 v l.length (l.flatMap pairC)) (x : Int × Int) (q : Nat) (hq : Box w q 78 (pairC x)) (hl : l.length ≤ 1000000) (hb : base ≤ w.heap.size) :
    ∃ v' w', (Builtin.append_ #[39, 39] ty #[v, .slice (some ⟨q, 0, none⟩) 1 1]).run Try.prog w = .ok v' w' ∧ Win w' base 2 v' (l ++ [x]).length ((l ++ [x]).flatMap pairC) ∧ Keeps (Own v) w w' ∧ (v'.ownBlock = v.ownBlock ∨ v'.ownBlock = some w.heap.size) := by
  obtain ⟨i0, hi, hz0, hz1, hz2⟩ := info_parts infoPair
  obtain ⟨v', w', h1, h2, h3, h4⟩ := run_append_win (P := Try.prog) w base 39 39 ty 78 i0 _ 2 16 Try.underlying39 hi hz0 hz1 hz2 rfl v l.length (l.flatMap pairC) hw
    (.slice (some ⟨q, 0, none⟩) 1 1) 1 (pairC x) ((Box.src hq 1 1).toSrc Try.underlying39 rfl (by intro u hu; simp only [pairC, List.mem_cons, List.not_mem_nil, or_false] at hu; rcases hu with rfl | rfl <;> rfl)) (by simp [maxLen]; omega) (by omega) hb
  exact ⟨v', w', h1, by rw [List.length_append, List.flatMap_append]; simpa using h2, h3, h4⟩
theorem pairs_row (l : List (Int × Int)) : RowOf 2 PairEn (l.flatMap pairC) l := by
  induction l with
  | nil => exact RowOf.nil
  | cons a l ih => exact RowOf.append (l := [a]) (RowOf.one rfl rfl) ih
/-- a row of pairs that lies in a window of its own -/
theorem PairsV.of_win {w : World} {base : Nat} {v : Value} {l : List (Int × Int)} (h : Win w base 2 v l.length (l.flatMap pairC)) : PairsV w (fun k => base ≤ k ∧ k < w.heap.size) v l := by
  refine SlV.of_win (At := PairAt w) (En := PairEn) h rfl (pairs_row l) fun b o c x hc hl hcc => ?_
  unfold PairEn at hc
  subst hc
  exact ⟨hcc 0 (by decide), hcc 1 (by decide)⟩
theorem rdown_arg {A : Nat → Prop} (w : World) (v : Value) (N : NA) (f t : Int) (is : Bool) (h : RefV w A v N) (he64 : N.ends ≤ 64) (hk : (N.endB f && N.endB t) = false) :
    Calls Try.prog 51 #[v, .int .i64 f, .int .i64 t, .bool is] w fun e w' => e = .returned (.tuple #[v, .int .i64 2]) ∧ Ext w w' := by
  have HK := Lib.hid hk
  clear hk
  obtain ⟨a, c, a', c', rfl, hp, hq⟩ := h.args
  clear h hp hq
  go_enter Try.func51, Try.ntmps51
  go_wp2_with fail
  have bx0 := ((Box.new w 41 [.int .i64 (N.ends : Int), .int .i64 (N.most : Int), .int .i64 (N.came : Int), .slice a N.l.length c, .slice a' N.downs.length c']).alloc (Obj.cells #[.int .i64 0, .int .i64 0, .int .i64 0, .slice none 0 0, .slice none 0 0] 41))
  have bx1 := (Box.new (w.alloc (Obj.cells #[.int .i64 (N.ends : Int), .int .i64 (N.most : Int), .int .i64 (N.came : Int), .slice a N.l.length c, .slice a' N.downs.length c'] 41)) 41 [.int .i64 0, .int .i64 0, .int .i64 0, .slice none 0 0, .slice none 0 0])
  have ex : Ext w ((w.alloc (Obj.cells #[.int .i64 (N.ends : Int), .int .i64 (N.most : Int), .int .i64 (N.came : Int), .slice a N.l.length c, .slice a' N.downs.length c'] 41)).alloc (Obj.cells #[.int .i64 0, .int .i64 0, .int .i64 0, .slice none 0 0, .slice none 0 0] 41)) := (((Keeps.refl NoB w).alloc _).alloc _)
  have sx : ((w.alloc (Obj.cells #[.int .i64 (N.ends : Int), .int .i64 (N.most : Int), .int .i64 (N.came : Int), .slice a N.l.length c, .slice a' N.downs.length c'] 41)).alloc (Obj.cells #[.int .i64 0, .int .i64 0, .int .i64 0, .slice none 0 0, .slice none 0 0] 41)).heap.size = w.heap.size + 2 := by simp
  simp only [World.size_alloc] at bx1
  generalize ((w.alloc (Obj.cells #[.int .i64 (N.ends : Int), .int .i64 (N.most : Int), .int .i64 (N.came : Int), .slice a N.l.length c, .slice a' N.downs.length c'] 41)).alloc (Obj.cells #[.int .i64 0, .int .i64 0, .int .i64 0, .slice none 0 0, .slice none 0 0] 41)) = w0 at bx0 bx1 ex sx ⊢
  have Sx := Lib.hid sx
  clear sx
  have B0 := Lib.hid bx0
  have B1 := Lib.hid bx1
  have HE := Lib.hid ex
  clear ex bx0 bx1
  refine (rend_any w0 N _ _ f ⟨_, _, _, _, _, _, rfl, rfl⟩ he64).mono ?_
  rintro e w1 ⟨rfl, hE⟩
  replace HE := Lib.hid (HE.out.ext hE)
  replace B0 := Lib.hid (B0.out.ext hE)
  replace B1 := Lib.hid (B1.out.ext hE)
  clear hE
  cases hf : N.endB f with
  | false =>
    obtain ⟨cB0, zB0⟩ := B0.out.reads
    have lB0 := B0.out.lt
    obtain ⟨cB1, zB1⟩ := B1.out.reads
    have lB1 := B1.out.lt
    go_wp2_with fail
    have q1 := ((((((B1.out.set 0 (.int .i64 (NA.ends N : Int))).set 1 (.int .i64 (NA.most N : Int))).set 2 (.int .i64 (NA.came N : Int))).set 3 (.slice a N.l.length c))).set 4 (.slice a' N.downs.length c'))
    dsimp only [List.set_cons_zero, List.set_cons_succ] at q1
    have hk : Keeps (OneB (w.heap.size + 1)) w1 (((((w1.setCell ⟨(w.heap.size + 1), 0, none⟩ (.int .i64 (NA.ends N : Int))).setCell ⟨(w.heap.size + 1), 1, none⟩ (.int .i64 (NA.most N : Int))).setCell ⟨(w.heap.size + 1), 2, none⟩ (.int .i64 (NA.came N : Int))).setCell ⟨(w.heap.size + 1), 3, none⟩ (.slice a N.l.length c)).setCell ⟨(w.heap.size + 1), 4, none⟩ (.slice a' N.downs.length c')) :=
      (((((Keeps.refl _ _).setOne _ _).setOne _ _).setOne _ _).setOne _ _).setOne _ _
    have q2 := q1.reads.1
    generalize (((((w1.setCell ⟨(w.heap.size + 1), 0, none⟩ (.int .i64 (NA.ends N : Int))).setCell ⟨(w.heap.size + 1), 1, none⟩ (.int .i64 (NA.most N : Int))).setCell ⟨(w.heap.size + 1), 2, none⟩ (.int .i64 (NA.came N : Int))).setCell ⟨(w.heap.size + 1), 3, none⟩ (.slice a N.l.length c)).setCell ⟨(w.heap.size + 1), 4, none⟩ (.slice a' N.downs.length c')) = w9 at q1 q2 hk ⊢
    have hks := hk.size
    clear cB0 zB0 lB0 cB1 zB1 lB1
    refine bodyPost_ret (v := .tuple #[.agg #[.int .i64 (N.ends : Int), .int .i64 (N.most : Int), .int .i64 (N.came : Int), .slice a N.l.length c, .slice a' N.downs.length c'], .int .i64 2]) (by simp [results, Try.results51, go_sem, q2]) rfl ⟨rfl, ?_⟩
    exact HE.out.then hk (fun i hi h => by unfold OneB at h; omega)
  | true =>
    rw [hf, Bool.true_and] at HK
    obtain ⟨cB0, zB0⟩ := B0.out.reads
    have lB0 := B0.out.lt
    obtain ⟨cB1, zB1⟩ := B1.out.reads
    have lB1 := B1.out.lt
    go_wp2_with fail
    refine (rend_any w1 N _ _ t ⟨_, _, _, _, _, _, rfl, rfl⟩ he64).mono ?_
    rintro e w2 ⟨rfl, hE⟩
    rw [HK.out]
    replace HE := Lib.hid (HE.out.ext hE)
    replace B0 := Lib.hid (B0.out.ext hE)
    replace B1 := Lib.hid (B1.out.ext hE)
    clear hE
    obtain ⟨cB0, zB0⟩ := B0.out.reads
    have lB0 := B0.out.lt
    obtain ⟨cB1, zB1⟩ := B1.out.reads
    have lB1 := B1.out.lt
    go_wp2_with fail
    have q1 := ((((((B1.out.set 0 (.int .i64 (NA.ends N : Int))).set 1 (.int .i64 (NA.most N : Int))).set 2 (.int .i64 (NA.came N : Int))).set 3 (.slice a N.l.length c))).set 4 (.slice a' N.downs.length c'))
    dsimp only [List.set_cons_zero, List.set_cons_succ] at q1
    have hk : Keeps (OneB (w.heap.size + 1)) w2 (((((w2.setCell ⟨(w.heap.size + 1), 0, none⟩ (.int .i64 (NA.ends N : Int))).setCell ⟨(w.heap.size + 1), 1, none⟩ (.int .i64 (NA.most N : Int))).setCell ⟨(w.heap.size + 1), 2, none⟩ (.int .i64 (NA.came N : Int))).setCell ⟨(w.heap.size + 1), 3, none⟩ (.slice a N.l.length c)).setCell ⟨(w.heap.size + 1), 4, none⟩ (.slice a' N.downs.length c')) :=
      (((((Keeps.refl _ _).setOne _ _).setOne _ _).setOne _ _).setOne _ _).setOne _ _
    have q2 := q1.reads.1
    generalize (((((w2.setCell ⟨(w.heap.size + 1), 0, none⟩ (.int .i64 (NA.ends N : Int))).setCell ⟨(w.heap.size + 1), 1, none⟩ (.int .i64 (NA.most N : Int))).setCell ⟨(w.heap.size + 1), 2, none⟩ (.int .i64 (NA.came N : Int))).setCell ⟨(w.heap.size + 1), 3, none⟩ (.slice a N.l.length c)).setCell ⟨(w.heap.size + 1), 4, none⟩ (.slice a' N.downs.length c')) = w9 at q1 q2 hk ⊢
    have hks := hk.size
    clear cB0 zB0 lB0 cB1 zB1 lB1
    refine bodyPost_ret (v := .tuple #[.agg #[.int .i64 (N.ends : Int), .int .i64 (N.most : Int), .int .i64 (N.came : Int), .slice a N.l.length c, .slice a' N.downs.length c'], .int .i64 2]) (by simp [results, Try.results51, go_sem, q2]) rfl ⟨rfl, ?_⟩
    exact HE.out.then hk (fun i hi h => by unfold OneB at h; omega)
def notP (f t : Int) (l : List (Int × Int)) : List (Int × Int) := l.filter fun p => decide (p ≠ (f, t))
theorem notP_keep {f t : Int} {l : List (Int × Int)} {k : Nat} (h : k < l.length) (hn : l[k] ≠ (f, t)) : notP f t (l.take (k + 1)) = notP f t (l.take k) ++ [l[k]] := by
  unfold notP
  rw [List.take_succ_eq_append_getElem h, List.filter_append, List.filter_cons_of_pos (by simpa using hn), List.filter_nil]
theorem notP_drop {f t : Int} {l : List (Int × Int)} {k : Nat} (h : k < l.length) (hn : l[k] = (f, t)) : notP f t (l.take (k + 1)) = notP f t (l.take k) := by
  unfold notP
  rw [List.take_succ_eq_append_getElem h, List.filter_append, List.filter_cons_of_neg (by simp [hn]), List.filter_nil, List.append_nil]
theorem notP_le (f t : Int) (l : List (Int × Int)) (k : Nat) : (notP f t (l.take k)).length ≤ l.length :=
  Nat.le_trans (List.length_filter_le _ _) (by rw [List.length_take]; omega)
set_option maxHeartbeats 4000000 in
theorem rdown_ok {A : Nat → Prop} (w : World) (v : Value) (N : NA) (f t : Int) (is : Bool) (h : RefV w A v N) (he64 : N.ends ≤ 64) (hl : N.downs.length ≤ 10000) (hA : ∀ k, A k → k < w.heap.size) (hk : (N.endB f && N.endB t) = true) :
    Calls Try.prog 51 #[v, .int .i64 f, .int .i64 t, .bool is] w fun e w' => ∃ v', e = .returned (.tuple #[v', .int .i64 0]) ∧ RefV w' (Gr A w w') v' (N.down f t is) ∧ Ext w w' := by
  rw [Bool.and_eq_true] at hk
  have HF := Lib.hid hk.1
  have HT := Lib.hid hk.2
  have HA := Lib.hid hA
  clear hk hA
  obtain ⟨a, c, a', c', rfl, hp, hq⟩ := h.args
  have HP := Lib.hid hp
  have HQ := Lib.hid hq
  clear h hp hq
  go_enter Try.func51, Try.ntmps51
  go_wp2_with fail
  have bx0 := ((Box.new w 41 [.int .i64 (N.ends : Int), .int .i64 (N.most : Int), .int .i64 (N.came : Int), .slice a N.l.length c, .slice a' N.downs.length c']).alloc (Obj.cells #[.int .i64 0, .int .i64 0, .int .i64 0, .slice none 0 0, .slice none 0 0] 41))
  have bx1 := (Box.new (w.alloc (Obj.cells #[.int .i64 (N.ends : Int), .int .i64 (N.most : Int), .int .i64 (N.came : Int), .slice a N.l.length c, .slice a' N.downs.length c'] 41)) 41 [.int .i64 0, .int .i64 0, .int .i64 0, .slice none 0 0, .slice none 0 0])
  have ex : Ext w ((w.alloc (Obj.cells #[.int .i64 (N.ends : Int), .int .i64 (N.most : Int), .int .i64 (N.came : Int), .slice a N.l.length c, .slice a' N.downs.length c'] 41)).alloc (Obj.cells #[.int .i64 0, .int .i64 0, .int .i64 0, .slice none 0 0, .slice none 0 0] 41)) := (((Keeps.refl NoB w).alloc _).alloc _)
  have sx : ((w.alloc (Obj.cells #[.int .i64 (N.ends : Int), .int .i64 (N.most : Int), .int .i64 (N.came : Int), .slice a N.l.length c, .slice a' N.downs.length c'] 41)).alloc (Obj.cells #[.int .i64 0, .int .i64 0, .int .i64 0, .slice none 0 0, .slice none 0 0] 41)).heap.size = w.heap.size + 2 := by simp
  simp only [World.size_alloc] at bx1
  generalize ((w.alloc (Obj.cells #[.int .i64 (N.ends : Int), .int .i64 (N.most : Int), .int .i64 (N.came : Int), .slice a N.l.length c, .slice a' N.downs.length c'] 41)).alloc (Obj.cells #[.int .i64 0, .int .i64 0, .int .i64 0, .slice none 0 0, .slice none 0 0] 41)) = w0 at bx0 bx1 ex sx ⊢
  have Sx := Lib.hid sx
  clear sx
  have B0 := Lib.hid bx0
  have B1 := Lib.hid bx1
  have HE := Lib.hid ex
  have hs0 := bx1.lt
  clear ex bx0 bx1
  refine (rend_any w0 N _ _ f ⟨_, _, _, _, _, _, rfl, rfl⟩ he64).mono ?_
  rintro e w1 ⟨rfl, hE⟩
  rw [HF.out]
  have h01 := hE.size
  replace HE := Lib.hid (HE.out.ext hE)
  replace B0 := Lib.hid (B0.out.ext hE)
  replace B1 := Lib.hid (B1.out.ext hE)
  clear hE
  obtain ⟨cB0, zB0⟩ := B0.out.reads
  have lB0 := B0.out.lt
  obtain ⟨cB1, zB1⟩ := B1.out.reads
  have lB1 := B1.out.lt
  go_wp2_with fail
  refine (rend_any w1 N _ _ t ⟨_, _, _, _, _, _, rfl, rfl⟩ he64).mono ?_
  rintro e w2 ⟨rfl, hE⟩
  rw [HT.out]
  have h12 := hE.size
  replace HE := Lib.hid (HE.out.ext hE)
  replace B0 := Lib.hid (B0.out.ext hE)
  replace B1 := Lib.hid (B1.out.ext hE)
  clear hE
  have HW0 : Hid (Win w2 (w.heap.size + 2) 2 (.slice none 0 0) (notP f t (N.downs.take 0)).length ((notP f t (N.downs.take 0)).flatMap pairC)) := Lib.hid (Win.nil _ _ _)
  obtain ⟨cB0, zB0⟩ := B0.out.reads
  have lB0 := B0.out.lt
  obtain ⟨cB1, zB1⟩ := B1.out.reads
  have lB1 := B1.out.lt
  go_wp2_with fail
  clear cB0 zB0 lB0 cB1 zB1 lB1
  go_loopw [10, 11] (fun o i wr => ∃ k : Nat, k ≤ N.downs.length ∧ i = .int .i64 k ∧ Hid (Win wr (w.heap.size + 2) 2 o (notP f t (N.downs.take k)).length ((notP f t (N.downs.take k)).flatMap pairC)) ∧ Hid (Ext w wr) ∧ Hid (w.heap.size + 2 ≤ wr.heap.size) ∧ Hid (Box wr w.heap.size 41 [.int .i64 (N.ends : Int), .int .i64 (N.most : Int), .int .i64 (N.came : Int), .slice a N.l.length c, .slice a' N.downs.length c']) ∧ Hid (Box wr (w.heap.size + 1) 41 [.int .i64 0, .int .i64 0, .int .i64 0, .slice none 0 0, .slice none 0 0])) (fun _ i _ => N.downs.length - (intOf i).toNat)
  case atStart => exact ⟨0, Nat.zero_le _, rfl, HW0, HE, Lib.hid (by omega), B0, B1⟩
  case round =>
    clear HE B0 B1 HW0
    obtain ⟨k, hk, rfl, hwin, HE, hsz, B0, B1⟩ := hrel
    have hs := hsz.out
    have hle := notP_le f t N.downs k
    obtain ⟨cB0, zB0⟩ := B0.out.reads
    have lB0 := B0.out.lt
    obtain ⟨cB1, zB1⟩ := B1.out.reads
    have lB1 := B1.out.lt
    by_cases hlt : k < N.downs.length
    · obtain ⟨-, hat⟩ := (HQ.out.ext HE.out).at
      obtain ⟨b, o, rfl, hc, hAb, j1, j2⟩ := hat k hlt
      have hbl := HA.out b hAb
      have hkeep : Hid (N.downs[k] ≠ (f, t) → notP f t (N.downs.take (k + 1)) = notP f t (N.downs.take k) ++ [N.downs[k]]) := Lib.hid (notP_keep hlt)
      have hdrop : Hid (N.downs[k] = (f, t) → notP f t (N.downs.take (k + 1)) = notP f t (N.downs.take k)) := Lib.hid (notP_drop hlt)
      generalize N.downs[k] = q at hkeep hdrop j1 j2
      obtain ⟨qf, qt⟩ := q
      dsimp only at j1 j2
      clear hat
      by_cases hb : qf = f ∧ qt = t
      · obtain ⟨rfl, rfl⟩ := hb
        have HW9 : Hid (Win wr (w.heap.size + 2) 2 _ (notP qf qt (N.downs.take (k + 1))).length ((notP qf qt (N.downs.take (k + 1))).flatMap pairC)) := Lib.hid (by rw [hdrop.out rfl]; exact hwin.out)
        clear hkeep hdrop hwin
        go_wp2_with fail
        clear cB0 zB0 lB0 cB1 zB1 lB1
        go_roundw
        case rel => exact ⟨k + 1, by omega, by go_num, HW9, HE, hsz, B0, B1⟩
        case measure => simp [intOf]; omega
      · have hne : ((qf, qt) : Int × Int) ≠ (f, t) := fun h => hb (by injection h with h1 h2; exact ⟨h1, h2⟩)
        have HK := Lib.hid (hkeep.out hne)
        clear hkeep hdrop
        by_cases hf1 : qf = f
        · subst hf1
          have ht1 : ¬ qt = t := fun h => hb ⟨rfl, h⟩
          clear hb hne
          go_wp2_with (at_builtin; refine standing ?_)
          clear cB0 zB0 lB0 cB1 zB1 lB1
          have by0 := (Box.new wr 78 [.int .i64 qf, .int .i64 qt])
          have ey : Ext wr (wr.alloc (Obj.cells #[.int .i64 qf, .int .i64 qt] 78)) := ((Keeps.refl NoB wr).alloc _)
          have sy : (wr.alloc (Obj.cells #[.int .i64 qf, .int .i64 qt] 78)).heap.size = wr.heap.size + 1 := by simp
          generalize (wr.alloc (Obj.cells #[.int .i64 qf, .int .i64 qt] 78)) = w5 at by0 ey sy ⊢
          have Sy := Lib.hid sy
          clear sy
          have h2 := ey.size
          obtain ⟨v3, w3, hr3, hwin3, hk3, ho3⟩ := append_pair w5 (w.heap.size + 2) _ (notP _ t (N.downs.take k)) 39 (hwin.out.ext ey) (qf, qt) wr.heap.size by0 (by omega) (by omega)
          rw [← HK.out] at hwin3
          have HW3 := Lib.hid hwin3
          have HE3 : Hid (Ext w w3) := Lib.hid ((HE.out.ext ey).then hk3 (fun i hi h => by have := hwin.out.block i h; omega))
          have HB0 := Lib.hid ((B0.out.ext ey).keeps hk3 (fun h => by have := hwin.out.block _ h; omega))
          have HB1 := Lib.hid ((B1.out.ext ey).keeps hk3 (fun h => by have := hwin.out.block _ h; omega))
          have hsz3 : Hid (w.heap.size + 2 ≤ w3.heap.size) := Lib.hid (by have := hk3.size; omega)
          clear ey by0 hwin3 hk3 ho3
          refine ⟨?_⟩
          refine wpList_append_ran rfl _ _ hr3 rfl rfl rfl ?_
          clear hr3
          go_wp2_with fail
          go_roundw
          case rel => exact ⟨k + 1, by omega, by go_num, HW3, HE3, hsz3, HB0, HB1⟩
          case measure => simp [intOf]; omega
        · clear hb hne
          go_wp2_with (at_builtin; refine standing ?_)
          clear cB0 zB0 lB0 cB1 zB1 lB1
          have by0 := (Box.new wr 78 [.int .i64 qf, .int .i64 qt])
          have ey : Ext wr (wr.alloc (Obj.cells #[.int .i64 qf, .int .i64 qt] 78)) := ((Keeps.refl NoB wr).alloc _)
          have sy : (wr.alloc (Obj.cells #[.int .i64 qf, .int .i64 qt] 78)).heap.size = wr.heap.size + 1 := by simp
          generalize (wr.alloc (Obj.cells #[.int .i64 qf, .int .i64 qt] 78)) = w5 at by0 ey sy ⊢
          have Sy := Lib.hid sy
          clear sy
          have h2 := ey.size
          obtain ⟨v3, w3, hr3, hwin3, hk3, ho3⟩ := append_pair w5 (w.heap.size + 2) _ (notP _ t (N.downs.take k)) 39 (hwin.out.ext ey) (qf, qt) wr.heap.size by0 (by omega) (by omega)
          rw [← HK.out] at hwin3
          have HW3 := Lib.hid hwin3
          have HE3 : Hid (Ext w w3) := Lib.hid ((HE.out.ext ey).then hk3 (fun i hi h => by have := hwin.out.block i h; omega))
          have HB0 := Lib.hid ((B0.out.ext ey).keeps hk3 (fun h => by have := hwin.out.block _ h; omega))
          have HB1 := Lib.hid ((B1.out.ext ey).keeps hk3 (fun h => by have := hwin.out.block _ h; omega))
          have hsz3 : Hid (w.heap.size + 2 ≤ w3.heap.size) := Lib.hid (by have := hk3.size; omega)
          clear ey by0 hwin3 hk3 ho3
          refine ⟨?_⟩
          refine wpList_append_ran rfl _ _ hr3 rfl rfl rfl ?_
          clear hr3
          go_wp2_with fail
          go_roundw
          case rel => exact ⟨k + 1, by omega, by go_num, HW3, HE3, hsz3, HB0, HB1⟩
          case measure => simp [intOf]; omega
    · obtain rfl : k = N.downs.length := by omega
      rw [List.take_length] at hwin hle
      obtain ⟨a7, c7, rfl⟩ := hwin.out.len
      have hfin : ∀ (W : World) (a7 : Option Addr) (c7 n7 : Nat), Hid (Win W (w.heap.size + 2) 2 (.slice a7 n7 c7) (N.down f t is).downs.length ((N.down f t is).downs.flatMap pairC)) → n7 = (N.down f t is).downs.length → Hid (Ext w W) → Hid (Box W w.heap.size 41 [.int .i64 (N.ends : Int), .int .i64 (N.most : Int), .int .i64 (N.came : Int), .slice a N.l.length c, .slice a' N.downs.length c']) →
          Hid (Box W (w.heap.size + 1) 41 [.int .i64 0, .int .i64 0, .int .i64 0, .slice none 0 0, .slice none 0 0]) →
          Hid (∃ w9, ((((((W.setCell ⟨w.heap.size, 4, none⟩ (.slice a7 n7 c7)).setCell ⟨w.heap.size + 1, 0, none⟩ (.int .i64 (N.ends : Int))).setCell ⟨w.heap.size + 1, 1, none⟩ (.int .i64 (N.most : Int))).setCell ⟨w.heap.size + 1, 2, none⟩ (.int .i64 (N.came : Int))).setCell ⟨w.heap.size + 1, 3, none⟩ (.slice a N.l.length c)).setCell ⟨w.heap.size + 1, 4, none⟩ (.slice a7 n7 c7)) = w9 ∧
            (∀ o, w9.cell? ⟨w.heap.size + 1, o, none⟩ = [.int .i64 (N.ends : Int), .int .i64 (N.most : Int), .int .i64 (N.came : Int), .slice a N.l.length c, .slice a7 n7 c7][o]?) ∧
            RefV w9 (Gr A w w9) (.agg #[.int .i64 (N.ends : Int), .int .i64 (N.most : Int), .int .i64 (N.came : Int), .slice a N.l.length c, .slice a7 n7 c7]) (N.down f t is) ∧ Ext w w9) := by
        intro W a7 c7 n7 hw hn hE b0 b1
        refine Lib.hid ?_
        have q1 := ((((((b1.out.other ⟨w.heap.size, 4, none⟩ (.slice a7 n7 c7) (by simp)).set 0 (.int .i64 (N.ends : Int))).set 1 (.int .i64 (N.most : Int))).set 2 (.int .i64 (N.came : Int))).set 3 (.slice a N.l.length c)).set 4 (.slice a7 n7 c7))
        dsimp only [List.set_cons_zero, List.set_cons_succ] at q1
        have hk : Keeps (fun k => k = w.heap.size ∨ k = w.heap.size + 1) W ((((((W.setCell ⟨w.heap.size, 4, none⟩ (.slice a7 n7 c7)).setCell ⟨w.heap.size + 1, 0, none⟩ (.int .i64 (N.ends : Int))).setCell ⟨w.heap.size + 1, 1, none⟩ (.int .i64 (N.most : Int))).setCell ⟨w.heap.size + 1, 2, none⟩ (.int .i64 (N.came : Int))).setCell ⟨w.heap.size + 1, 3, none⟩ (.slice a N.l.length c)).setCell ⟨w.heap.size + 1, 4, none⟩ (.slice a7 n7 c7)) :=
          ((((((Keeps.refl _ _).setCell _ _ (.inl (.inl rfl))).setCell _ _ (.inl (.inr rfl))).setCell _ _ (.inl (.inr rfl))).setCell _ _ (.inl (.inr rfl))).setCell _ _ (.inl (.inr rfl))).setCell _ _ (.inl (.inr rfl))
        refine ⟨_, rfl, q1.reads.1, ⟨_, _, rfl, ?_, ?_⟩, ?_⟩
        · refine (((HP.out.ext hE.out).keeps hk (fun k hk' h => by have := HA.out k hk'; omega)).mono (fun k hk' => .inl hk'))
        · have h1 := PairsV.of_win (w := W) (base := w.heap.size + 2) (v := .slice a7 n7 c7) (l := (N.down f t is).downs) (by have h9 := hw.out; rw [hn] at h9; rw [hn]; exact h9)
          refine (h1.keeps hk (fun k hk' h => by omega)).mono (fun k hk' => .inr ?_)
          have := hk.size
          exact ⟨by omega, by omega⟩
        · exact hE.out.then hk (fun i hi h => by omega)
      cases is with
      | false =>
        have hd : (N.down f t false).downs = notP f t N.downs := List.append_nil _
        obtain ⟨w9, hw9, q2, hR, hE9⟩ := (hfin wr a7 c7 _ (by rw [hd]; exact hwin) (by rw [hd]) HE B0 B1).out
        have HR := Lib.hid hR
        clear hfin hd hR
        go_wp2_with fail
        clear cB0 zB0 lB0 cB1 zB1 lB1
        exact bodyPost_ret (v := .tuple #[.agg #[.int .i64 (N.ends : Int), .int .i64 (N.most : Int), .int .i64 (N.came : Int), .slice a N.l.length c, .slice a7 (notP f t N.downs).length c7], .int .i64 0]) (by simp [results, Try.results51, go_sem, q2]) rfl ⟨_, rfl, HR.out, hE9⟩
      | true =>
        have hd : (N.down f t true).downs = notP f t N.downs ++ [(f, t)] := rfl
        rw [hd] at hfin
        have HF := Lib.hid hfin
        clear hfin hd
        go_wp2_with (at_builtin; refine standing ?_)
        clear cB0 zB0 lB0 cB1 zB1 lB1
        have by0 := (Box.new wr 78 [.int .i64 f, .int .i64 t])
        have ey : Ext wr (wr.alloc (Obj.cells #[.int .i64 f, .int .i64 t] 78)) := ((Keeps.refl NoB wr).alloc _)
        have sy : (wr.alloc (Obj.cells #[.int .i64 f, .int .i64 t] 78)).heap.size = wr.heap.size + 1 := by simp
        generalize (wr.alloc (Obj.cells #[.int .i64 f, .int .i64 t] 78)) = w5 at by0 ey sy ⊢
        have Sy := Lib.hid sy
        clear sy
        have h2 := ey.size
        obtain ⟨v3, w3, hr3, hwin3, hk3, ho3⟩ := append_pair w5 (w.heap.size + 2) _ (notP f t N.downs) 39 (hwin.out.ext ey) (f, t) wr.heap.size by0 (by omega) (by omega)
        obtain ⟨n8, hn8⟩ : ∃ n8, (notP f t N.downs ++ [(f, t)]).length = n8 := ⟨_, rfl⟩
        rw [hn8] at hwin3
        obtain ⟨a8, c8, rfl⟩ := hwin3.len
        have HE3 : Hid (Ext w w3) := Lib.hid ((HE.out.ext ey).then hk3 (fun i hi h => by have := hwin.out.block i h; omega))
        have HB0 := Lib.hid ((B0.out.ext ey).keeps hk3 (fun h => by have := hwin.out.block _ h; omega))
        have HB1 := Lib.hid ((B1.out.ext ey).keeps hk3 (fun h => by have := hwin.out.block _ h; omega))
        obtain ⟨w9, hw9, q2, hR, hE9⟩ := (HF.out w3 a8 c8 _ (Lib.hid (by rw [hn8]; exact hwin3)) hn8.symm HE3 HB0 HB1).out
        have HR := Lib.hid hR
        clear ey by0 hwin3 hk3 ho3 HF hR HE B0 B1 hn8
        refine ⟨?_⟩
        refine wpList_append_ran rfl _ _ hr3 rfl rfl rfl ?_
        clear hr3
        obtain ⟨cHB0, zHB0⟩ := HB0.out.reads
        have lHB0 := HB0.out.lt
        obtain ⟨cHB1, zHB1⟩ := HB1.out.reads
        have lHB1 := HB1.out.lt
        go_wp2_with fail
        exact bodyPost_ret (v := .tuple #[.agg #[.int .i64 (N.ends : Int), .int .i64 (N.most : Int), .int .i64 (N.came : Int), .slice a N.l.length c, .slice a8 n8 c8], .int .i64 0]) (by simp [results, Try.results51, go_sem, q2]) rfl ⟨_, rfl, HR.out, hE9⟩
end Go.Proofs.Ytdiogipdcpiffaa
