/- The walk of the reference's Put. -/
import Derived.Test.YtdiogipdcpiffaaNRefE
import Derived.Test.YtdiogipdcpiffaaFork
set_option linter.unusedVariables false
set_option maxHeartbeats 400000
set_option maxRecDepth 10000
namespace Go.Proofs.Ytdiogipdcpiffaa
open Go.RowKit

set_option maxHeartbeats 4000000 in
theorem rput_err {A AB : Nat → Prop} (w : World) (v bv : Value) (N : NA) (f t : Int) (bl : List UInt8) (h : RefV w A v N) (hb : Bytes w AB bv bl) (he64 : N.ends ≤ 64) (hl : N.l.length ≤ 4096) (hmm : N.most ≤ 4096) (hdl : N.downs.length ≤ 10000) (hbl : bl.length ≤ 9223372036854775807) (hA : ∀ k, A k → k < w.heap.size) (k : Nat) (hk : N.putErr f t bl.length = k) (h0 : k ≠ 0) :
    Calls Try.prog 47 #[v, .int .i64 f, .int .i64 t, bv] w fun e w' => e = .returned (.tuple #[v, .int .i64 0, .int .i64 (k : Int)]) ∧ Ext w w' := by
  unfold NA.putErr at hk
  cases hf : N.endB f with
  | false =>
    rw [if_pos (by rw [hf]; rfl)] at hk
    subst hk
    obtain ⟨a, c, a', c', rfl, hp, hq⟩ := h.args
    obtain ⟨ba, bc, rfl⟩ := hb.len
    have HV := Lib.hid h
    have HP := Lib.hid hp
    have HA := Lib.hid hA
    have HB := Lib.hid hb
    clear h hp hq hb hA
    go_enter Try.func47, Try.ntmps47
    go_wp2_with fail
    have bx0 := ((Box.new w 41 [.int .i64 (N.ends : Int), .int .i64 (N.most : Int), .int .i64 (N.came : Int), .slice a N.l.length c, .slice a' N.downs.length c']).alloc (Obj.cells #[.int .i64 0, .int .i64 0, .int .i64 0, .slice none 0 0, .slice none 0 0] 41))
    have bx1 := (Box.new (w.alloc (Obj.cells #[.int .i64 (N.ends : Int), .int .i64 (N.most : Int), .int .i64 (N.came : Int), .slice a N.l.length c, .slice a' N.downs.length c'] 41)) 41 [.int .i64 0, .int .i64 0, .int .i64 0, .slice none 0 0, .slice none 0 0])
    have ex : Ext w ((w.alloc (Obj.cells #[.int .i64 (N.ends : Int), .int .i64 (N.most : Int), .int .i64 (N.came : Int), .slice a N.l.length c, .slice a' N.downs.length c'] 41)).alloc (Obj.cells #[.int .i64 0, .int .i64 0, .int .i64 0, .slice none 0 0, .slice none 0 0] 41)) := (((Keeps.refl NoB w).alloc _).alloc _)
    have sx : ((w.alloc (Obj.cells #[.int .i64 (N.ends : Int), .int .i64 (N.most : Int), .int .i64 (N.came : Int), .slice a N.l.length c, .slice a' N.downs.length c'] 41)).alloc (Obj.cells #[.int .i64 0, .int .i64 0, .int .i64 0, .slice none 0 0, .slice none 0 0] 41)).heap.size = w.heap.size + 2 := by simp
    simp only [World.size_alloc] at bx1
    generalize ((w.alloc (Obj.cells #[.int .i64 (N.ends : Int), .int .i64 (N.most : Int), .int .i64 (N.came : Int), .slice a N.l.length c, .slice a' N.downs.length c'] 41)).alloc (Obj.cells #[.int .i64 0, .int .i64 0, .int .i64 0, .slice none 0 0, .slice none 0 0] 41)) = w0 at bx0 bx1 ex sx ⊢
    have Sx := Lib.hid sx
    clear sx
    have B0 := Lib.hid bx0
    have B1 := Lib.hid bx1
    have HE := Lib.hid ex
    clear ex bx0 bx1
    refine (rend_any w0 N _ _ f ⟨_, _, _, _, _, _, rfl, rfl⟩ he64).mono ?_
    rintro e w1 ⟨rfl, hE⟩
    replace HE := Lib.hid (HE.out.ext hE)
    replace B0 := Lib.hid (B0.out.ext hE)
    replace B1 := Lib.hid (B1.out.ext hE)
    clear hE
    rw [hf]
    obtain ⟨cB0, zB0⟩ := B0.out.reads
    have lB0 := B0.out.lt
    obtain ⟨cB1, zB1⟩ := B1.out.reads
    have lB1 := B1.out.lt
    go_wp2_with fail
    have q1 := ((((((B1.out.set 0 (.int .i64 (NA.ends N : Int))).set 1 (.int .i64 (NA.most N : Int))).set 2 (.int .i64 (NA.came N : Int))).set 3 (.slice a N.l.length c))).set 4 (.slice a' N.downs.length c'))
    dsimp only [List.set_cons_zero, List.set_cons_succ] at q1
    have hk : Keeps (OneB (w.heap.size + 1)) w1 (((((w1.setCell ⟨(w.heap.size + 1), 0, none⟩ (.int .i64 (NA.ends N : Int))).setCell ⟨(w.heap.size + 1), 1, none⟩ (.int .i64 (NA.most N : Int))).setCell ⟨(w.heap.size + 1), 2, none⟩ (.int .i64 (NA.came N : Int))).setCell ⟨(w.heap.size + 1), 3, none⟩ (.slice a N.l.length c)).setCell ⟨(w.heap.size + 1), 4, none⟩ (.slice a' N.downs.length c')) :=
      (((((Keeps.refl _ _).setOne _ _).setOne _ _).setOne _ _).setOne _ _).setOne _ _
    have q2 := q1.reads.1
    generalize (((((w1.setCell ⟨(w.heap.size + 1), 0, none⟩ (.int .i64 (NA.ends N : Int))).setCell ⟨(w.heap.size + 1), 1, none⟩ (.int .i64 (NA.most N : Int))).setCell ⟨(w.heap.size + 1), 2, none⟩ (.int .i64 (NA.came N : Int))).setCell ⟨(w.heap.size + 1), 3, none⟩ (.slice a N.l.length c)).setCell ⟨(w.heap.size + 1), 4, none⟩ (.slice a' N.downs.length c')) = w9 at q1 q2 hk ⊢
    have hks := hk.size
    clear cB0 zB0 lB0 cB1 zB1 lB1
    refine bodyPost_ret (v := .tuple #[.agg #[.int .i64 (N.ends : Int), .int .i64 (N.most : Int), .int .i64 (N.came : Int), .slice a N.l.length c, .slice a' N.downs.length c'], .int .i64 0, .int .i64 2]) (by simp [results, Try.results47, go_sem, q2]) rfl ⟨rfl, ?_⟩
    exact HE.out.then hk (fun i hi h => by unfold OneB at h; omega)
  | true =>
    have HF := Lib.hid hf
    cases ht : N.endB t with
    | false =>
      rw [if_pos (by rw [ht, Bool.and_false])] at hk
      subst hk
      obtain ⟨a, c, a', c', rfl, hp, hq⟩ := h.args
      obtain ⟨ba, bc, rfl⟩ := hb.len
      have HV := Lib.hid h
      have HP := Lib.hid hp
      have HA := Lib.hid hA
      have HB := Lib.hid hb
      clear h hp hq hb hA
      go_enter Try.func47, Try.ntmps47
      go_wp2_with fail
      have bx0 := ((Box.new w 41 [.int .i64 (N.ends : Int), .int .i64 (N.most : Int), .int .i64 (N.came : Int), .slice a N.l.length c, .slice a' N.downs.length c']).alloc (Obj.cells #[.int .i64 0, .int .i64 0, .int .i64 0, .slice none 0 0, .slice none 0 0] 41))
      have bx1 := (Box.new (w.alloc (Obj.cells #[.int .i64 (N.ends : Int), .int .i64 (N.most : Int), .int .i64 (N.came : Int), .slice a N.l.length c, .slice a' N.downs.length c'] 41)) 41 [.int .i64 0, .int .i64 0, .int .i64 0, .slice none 0 0, .slice none 0 0])
      have ex : Ext w ((w.alloc (Obj.cells #[.int .i64 (N.ends : Int), .int .i64 (N.most : Int), .int .i64 (N.came : Int), .slice a N.l.length c, .slice a' N.downs.length c'] 41)).alloc (Obj.cells #[.int .i64 0, .int .i64 0, .int .i64 0, .slice none 0 0, .slice none 0 0] 41)) := (((Keeps.refl NoB w).alloc _).alloc _)
      have sx : ((w.alloc (Obj.cells #[.int .i64 (N.ends : Int), .int .i64 (N.most : Int), .int .i64 (N.came : Int), .slice a N.l.length c, .slice a' N.downs.length c'] 41)).alloc (Obj.cells #[.int .i64 0, .int .i64 0, .int .i64 0, .slice none 0 0, .slice none 0 0] 41)).heap.size = w.heap.size + 2 := by simp
      simp only [World.size_alloc] at bx1
      generalize ((w.alloc (Obj.cells #[.int .i64 (N.ends : Int), .int .i64 (N.most : Int), .int .i64 (N.came : Int), .slice a N.l.length c, .slice a' N.downs.length c'] 41)).alloc (Obj.cells #[.int .i64 0, .int .i64 0, .int .i64 0, .slice none 0 0, .slice none 0 0] 41)) = w0 at bx0 bx1 ex sx ⊢
      have Sx := Lib.hid sx
      clear sx
      have B0 := Lib.hid bx0
      have B1 := Lib.hid bx1
      have HE := Lib.hid ex
      clear ex bx0 bx1
      refine (rend_any w0 N _ _ f ⟨_, _, _, _, _, _, rfl, rfl⟩ he64).mono ?_
      rintro e w1 ⟨rfl, hE⟩
      replace HE := Lib.hid (HE.out.ext hE)
      replace B0 := Lib.hid (B0.out.ext hE)
      replace B1 := Lib.hid (B1.out.ext hE)
      clear hE
      rw [HF.out]
      obtain ⟨cB0, zB0⟩ := B0.out.reads
      have lB0 := B0.out.lt
      obtain ⟨cB1, zB1⟩ := B1.out.reads
      have lB1 := B1.out.lt
      go_wp2_with fail
      refine (rend_any w1 N _ _ t ⟨_, _, _, _, _, _, rfl, rfl⟩ he64).mono ?_
      rintro e w2 ⟨rfl, hE⟩
      replace HE := Lib.hid (HE.out.ext hE)
      replace B0 := Lib.hid (B0.out.ext hE)
      replace B1 := Lib.hid (B1.out.ext hE)
      clear hE
      rw [ht]
      obtain ⟨cB0, zB0⟩ := B0.out.reads
      have lB0 := B0.out.lt
      obtain ⟨cB1, zB1⟩ := B1.out.reads
      have lB1 := B1.out.lt
      go_wp2_with fail
      have q1 := ((((((B1.out.set 0 (.int .i64 (NA.ends N : Int))).set 1 (.int .i64 (NA.most N : Int))).set 2 (.int .i64 (NA.came N : Int))).set 3 (.slice a N.l.length c))).set 4 (.slice a' N.downs.length c'))
      dsimp only [List.set_cons_zero, List.set_cons_succ] at q1
      have hk : Keeps (OneB (w.heap.size + 1)) w2 (((((w2.setCell ⟨(w.heap.size + 1), 0, none⟩ (.int .i64 (NA.ends N : Int))).setCell ⟨(w.heap.size + 1), 1, none⟩ (.int .i64 (NA.most N : Int))).setCell ⟨(w.heap.size + 1), 2, none⟩ (.int .i64 (NA.came N : Int))).setCell ⟨(w.heap.size + 1), 3, none⟩ (.slice a N.l.length c)).setCell ⟨(w.heap.size + 1), 4, none⟩ (.slice a' N.downs.length c')) :=
        (((((Keeps.refl _ _).setOne _ _).setOne _ _).setOne _ _).setOne _ _).setOne _ _
      have q2 := q1.reads.1
      generalize (((((w2.setCell ⟨(w.heap.size + 1), 0, none⟩ (.int .i64 (NA.ends N : Int))).setCell ⟨(w.heap.size + 1), 1, none⟩ (.int .i64 (NA.most N : Int))).setCell ⟨(w.heap.size + 1), 2, none⟩ (.int .i64 (NA.came N : Int))).setCell ⟨(w.heap.size + 1), 3, none⟩ (.slice a N.l.length c)).setCell ⟨(w.heap.size + 1), 4, none⟩ (.slice a' N.downs.length c')) = w9 at q1 q2 hk ⊢
      have hks := hk.size
      clear cB0 zB0 lB0 cB1 zB1 lB1
      refine bodyPost_ret (v := .tuple #[.agg #[.int .i64 (N.ends : Int), .int .i64 (N.most : Int), .int .i64 (N.came : Int), .slice a N.l.length c, .slice a' N.downs.length c'], .int .i64 0, .int .i64 2]) (by simp [results, Try.results47, go_sem, q2]) rfl ⟨rfl, ?_⟩
      exact HE.out.then hk (fun i hi h => by unfold OneB at h; omega)
    | true =>
      rw [if_neg (by rw [hf, ht]; decide)] at hk
      have HT := Lib.hid ht
      clear hf ht
      by_cases h8 : 8192 < bl.length
      · rw [if_pos h8] at hk
        subst hk
        obtain ⟨a, c, a', c', rfl, hp, hq⟩ := h.args
        obtain ⟨ba, bc, rfl⟩ := hb.len
        have HV := Lib.hid h
        have HP := Lib.hid hp
        have HA := Lib.hid hA
        have HB := Lib.hid hb
        clear h hp hq hb hA
        go_enter Try.func47, Try.ntmps47
        go_wp2_with fail
        have bx0 := ((Box.new w 41 [.int .i64 (N.ends : Int), .int .i64 (N.most : Int), .int .i64 (N.came : Int), .slice a N.l.length c, .slice a' N.downs.length c']).alloc (Obj.cells #[.int .i64 0, .int .i64 0, .int .i64 0, .slice none 0 0, .slice none 0 0] 41))
        have bx1 := (Box.new (w.alloc (Obj.cells #[.int .i64 (N.ends : Int), .int .i64 (N.most : Int), .int .i64 (N.came : Int), .slice a N.l.length c, .slice a' N.downs.length c'] 41)) 41 [.int .i64 0, .int .i64 0, .int .i64 0, .slice none 0 0, .slice none 0 0])
        have ex : Ext w ((w.alloc (Obj.cells #[.int .i64 (N.ends : Int), .int .i64 (N.most : Int), .int .i64 (N.came : Int), .slice a N.l.length c, .slice a' N.downs.length c'] 41)).alloc (Obj.cells #[.int .i64 0, .int .i64 0, .int .i64 0, .slice none 0 0, .slice none 0 0] 41)) := (((Keeps.refl NoB w).alloc _).alloc _)
        have sx : ((w.alloc (Obj.cells #[.int .i64 (N.ends : Int), .int .i64 (N.most : Int), .int .i64 (N.came : Int), .slice a N.l.length c, .slice a' N.downs.length c'] 41)).alloc (Obj.cells #[.int .i64 0, .int .i64 0, .int .i64 0, .slice none 0 0, .slice none 0 0] 41)).heap.size = w.heap.size + 2 := by simp
        simp only [World.size_alloc] at bx1
        generalize ((w.alloc (Obj.cells #[.int .i64 (N.ends : Int), .int .i64 (N.most : Int), .int .i64 (N.came : Int), .slice a N.l.length c, .slice a' N.downs.length c'] 41)).alloc (Obj.cells #[.int .i64 0, .int .i64 0, .int .i64 0, .slice none 0 0, .slice none 0 0] 41)) = w0 at bx0 bx1 ex sx ⊢
        have Sx := Lib.hid sx
        clear sx
        have B0 := Lib.hid bx0
        have B1 := Lib.hid bx1
        have HE := Lib.hid ex
        clear ex bx0 bx1
        refine (rend_any w0 N _ _ f ⟨_, _, _, _, _, _, rfl, rfl⟩ he64).mono ?_
        rintro e w1 ⟨rfl, hE⟩
        replace HE := Lib.hid (HE.out.ext hE)
        replace B0 := Lib.hid (B0.out.ext hE)
        replace B1 := Lib.hid (B1.out.ext hE)
        clear hE
        rw [HF.out]
        obtain ⟨cB0, zB0⟩ := B0.out.reads
        have lB0 := B0.out.lt
        obtain ⟨cB1, zB1⟩ := B1.out.reads
        have lB1 := B1.out.lt
        go_wp2_with fail
        refine (rend_any w1 N _ _ t ⟨_, _, _, _, _, _, rfl, rfl⟩ he64).mono ?_
        rintro e w2 ⟨rfl, hE⟩
        replace HE := Lib.hid (HE.out.ext hE)
        replace B0 := Lib.hid (B0.out.ext hE)
        replace B1 := Lib.hid (B1.out.ext hE)
        clear hE
        rw [HT.out]
        have hlt8 : 8192 < (bl.length : Int) := by omega
        obtain ⟨cB0, zB0⟩ := B0.out.reads
        have lB0 := B0.out.lt
        obtain ⟨cB1, zB1⟩ := B1.out.reads
        have lB1 := B1.out.lt
        go_wp2_with fail
        have q1 := ((((((B1.out.set 0 (.int .i64 (NA.ends N : Int))).set 1 (.int .i64 (NA.most N : Int))).set 2 (.int .i64 (NA.came N : Int))).set 3 (.slice a N.l.length c))).set 4 (.slice a' N.downs.length c'))
        dsimp only [List.set_cons_zero, List.set_cons_succ] at q1
        have hk : Keeps (OneB (w.heap.size + 1)) w2 (((((w2.setCell ⟨(w.heap.size + 1), 0, none⟩ (.int .i64 (NA.ends N : Int))).setCell ⟨(w.heap.size + 1), 1, none⟩ (.int .i64 (NA.most N : Int))).setCell ⟨(w.heap.size + 1), 2, none⟩ (.int .i64 (NA.came N : Int))).setCell ⟨(w.heap.size + 1), 3, none⟩ (.slice a N.l.length c)).setCell ⟨(w.heap.size + 1), 4, none⟩ (.slice a' N.downs.length c')) :=
          (((((Keeps.refl _ _).setOne _ _).setOne _ _).setOne _ _).setOne _ _).setOne _ _
        have q2 := q1.reads.1
        generalize (((((w2.setCell ⟨(w.heap.size + 1), 0, none⟩ (.int .i64 (NA.ends N : Int))).setCell ⟨(w.heap.size + 1), 1, none⟩ (.int .i64 (NA.most N : Int))).setCell ⟨(w.heap.size + 1), 2, none⟩ (.int .i64 (NA.came N : Int))).setCell ⟨(w.heap.size + 1), 3, none⟩ (.slice a N.l.length c)).setCell ⟨(w.heap.size + 1), 4, none⟩ (.slice a' N.downs.length c')) = w9 at q1 q2 hk ⊢
        have hks := hk.size
        clear cB0 zB0 lB0 cB1 zB1 lB1
        refine bodyPost_ret (v := .tuple #[.agg #[.int .i64 (N.ends : Int), .int .i64 (N.most : Int), .int .i64 (N.came : Int), .slice a N.l.length c, .slice a' N.downs.length c'], .int .i64 0, .int .i64 3]) (by simp [results, Try.results47, go_sem, q2]) rfl ⟨rfl, ?_⟩
        exact HE.out.then hk (fun i hi h => by unfold OneB at h; omega)
      · rw [if_neg h8] at hk
        have HL := Lib.hid h8
        clear h8
        by_cases hd : (f, t) ∈ N.downs
        · rw [if_pos hd] at hk
          subst hk
          obtain ⟨a, c, a', c', rfl, hp, hq⟩ := h.args
          obtain ⟨ba, bc, rfl⟩ := hb.len
          have HV := Lib.hid h
          have HP := Lib.hid hp
          have HA := Lib.hid hA
          have HB := Lib.hid hb
          clear h hp hq hb hA
          go_enter Try.func47, Try.ntmps47
          go_wp2_with fail
          have bx0 := ((Box.new w 41 [.int .i64 (N.ends : Int), .int .i64 (N.most : Int), .int .i64 (N.came : Int), .slice a N.l.length c, .slice a' N.downs.length c']).alloc (Obj.cells #[.int .i64 0, .int .i64 0, .int .i64 0, .slice none 0 0, .slice none 0 0] 41))
          have bx1 := (Box.new (w.alloc (Obj.cells #[.int .i64 (N.ends : Int), .int .i64 (N.most : Int), .int .i64 (N.came : Int), .slice a N.l.length c, .slice a' N.downs.length c'] 41)) 41 [.int .i64 0, .int .i64 0, .int .i64 0, .slice none 0 0, .slice none 0 0])
          have ex : Ext w ((w.alloc (Obj.cells #[.int .i64 (N.ends : Int), .int .i64 (N.most : Int), .int .i64 (N.came : Int), .slice a N.l.length c, .slice a' N.downs.length c'] 41)).alloc (Obj.cells #[.int .i64 0, .int .i64 0, .int .i64 0, .slice none 0 0, .slice none 0 0] 41)) := (((Keeps.refl NoB w).alloc _).alloc _)
          have sx : ((w.alloc (Obj.cells #[.int .i64 (N.ends : Int), .int .i64 (N.most : Int), .int .i64 (N.came : Int), .slice a N.l.length c, .slice a' N.downs.length c'] 41)).alloc (Obj.cells #[.int .i64 0, .int .i64 0, .int .i64 0, .slice none 0 0, .slice none 0 0] 41)).heap.size = w.heap.size + 2 := by simp
          simp only [World.size_alloc] at bx1
          generalize ((w.alloc (Obj.cells #[.int .i64 (N.ends : Int), .int .i64 (N.most : Int), .int .i64 (N.came : Int), .slice a N.l.length c, .slice a' N.downs.length c'] 41)).alloc (Obj.cells #[.int .i64 0, .int .i64 0, .int .i64 0, .slice none 0 0, .slice none 0 0] 41)) = w0 at bx0 bx1 ex sx ⊢
          have Sx := Lib.hid sx
          clear sx
          have B0 := Lib.hid bx0
          have B1 := Lib.hid bx1
          have HE := Lib.hid ex
          clear ex bx0 bx1
          refine (rend_any w0 N _ _ f ⟨_, _, _, _, _, _, rfl, rfl⟩ he64).mono ?_
          rintro e w1 ⟨rfl, hE⟩
          replace HE := Lib.hid (HE.out.ext hE)
          replace B0 := Lib.hid (B0.out.ext hE)
          replace B1 := Lib.hid (B1.out.ext hE)
          clear hE
          rw [HF.out]
          obtain ⟨cB0, zB0⟩ := B0.out.reads
          have lB0 := B0.out.lt
          obtain ⟨cB1, zB1⟩ := B1.out.reads
          have lB1 := B1.out.lt
          go_wp2_with fail
          refine (rend_any w1 N _ _ t ⟨_, _, _, _, _, _, rfl, rfl⟩ he64).mono ?_
          rintro e w2 ⟨rfl, hE⟩
          replace HE := Lib.hid (HE.out.ext hE)
          replace B0 := Lib.hid (B0.out.ext hE)
          replace B1 := Lib.hid (B1.out.ext hE)
          clear hE
          rw [HT.out]
          have hlt8 : ¬ (8192 < (bl.length : Int)) := by have := HL.out; omega
          obtain ⟨cB0, zB0⟩ := B0.out.reads
          have lB0 := B0.out.lt
          obtain ⟨cB1, zB1⟩ := B1.out.reads
          have lB1 := B1.out.lt
          go_wp2_with fail
          clear cB0 zB0 lB0 cB1 zB1 lB1
          refine (risdown_any w2 _ N f t (HV.out.ext HE.out) hdl (fun k hk => Nat.lt_of_lt_of_le (HA.out k hk) HE.out.size)).mono ?_
          rintro e w3 ⟨rfl, hE⟩
          replace HE := Lib.hid (HE.out.ext hE)
          replace B0 := Lib.hid (B0.out.ext hE)
          replace B1 := Lib.hid (B1.out.ext hE)
          clear hE
          rw [decide_eq_true hd]
          obtain ⟨cB0, zB0⟩ := B0.out.reads
          have lB0 := B0.out.lt
          obtain ⟨cB1, zB1⟩ := B1.out.reads
          have lB1 := B1.out.lt
          go_wp2_with fail
          have q1 := ((((((B1.out.set 0 (.int .i64 (NA.ends N : Int))).set 1 (.int .i64 (NA.most N : Int))).set 2 (.int .i64 (NA.came N : Int))).set 3 (.slice a N.l.length c))).set 4 (.slice a' N.downs.length c'))
          dsimp only [List.set_cons_zero, List.set_cons_succ] at q1
          have hk : Keeps (OneB (w.heap.size + 1)) w3 (((((w3.setCell ⟨(w.heap.size + 1), 0, none⟩ (.int .i64 (NA.ends N : Int))).setCell ⟨(w.heap.size + 1), 1, none⟩ (.int .i64 (NA.most N : Int))).setCell ⟨(w.heap.size + 1), 2, none⟩ (.int .i64 (NA.came N : Int))).setCell ⟨(w.heap.size + 1), 3, none⟩ (.slice a N.l.length c)).setCell ⟨(w.heap.size + 1), 4, none⟩ (.slice a' N.downs.length c')) :=
            (((((Keeps.refl _ _).setOne _ _).setOne _ _).setOne _ _).setOne _ _).setOne _ _
          have q2 := q1.reads.1
          generalize (((((w3.setCell ⟨(w.heap.size + 1), 0, none⟩ (.int .i64 (NA.ends N : Int))).setCell ⟨(w.heap.size + 1), 1, none⟩ (.int .i64 (NA.most N : Int))).setCell ⟨(w.heap.size + 1), 2, none⟩ (.int .i64 (NA.came N : Int))).setCell ⟨(w.heap.size + 1), 3, none⟩ (.slice a N.l.length c)).setCell ⟨(w.heap.size + 1), 4, none⟩ (.slice a' N.downs.length c')) = w9 at q1 q2 hk ⊢
          have hks := hk.size
          clear cB0 zB0 lB0 cB1 zB1 lB1
          refine bodyPost_ret (v := .tuple #[.agg #[.int .i64 (N.ends : Int), .int .i64 (N.most : Int), .int .i64 (N.came : Int), .slice a N.l.length c, .slice a' N.downs.length c'], .int .i64 0, .int .i64 210]) (by simp [results, Try.results47, go_sem, q2]) rfl ⟨rfl, ?_⟩
          exact HE.out.then hk (fun i hi h => by unfold OneB at h; omega)
        · rw [if_neg hd] at hk
          by_cases hm : N.most ≤ N.l.length
          · rw [if_pos hm] at hk
            subst hk
            obtain ⟨a, c, a', c', rfl, hp, hq⟩ := h.args
            obtain ⟨ba, bc, rfl⟩ := hb.len
            have HV := Lib.hid h
            have HP := Lib.hid hp
            have HA := Lib.hid hA
            have HB := Lib.hid hb
            clear h hp hq hb hA
            go_enter Try.func47, Try.ntmps47
            go_wp2_with fail
            have bx0 := ((Box.new w 41 [.int .i64 (N.ends : Int), .int .i64 (N.most : Int), .int .i64 (N.came : Int), .slice a N.l.length c, .slice a' N.downs.length c']).alloc (Obj.cells #[.int .i64 0, .int .i64 0, .int .i64 0, .slice none 0 0, .slice none 0 0] 41))
            have bx1 := (Box.new (w.alloc (Obj.cells #[.int .i64 (N.ends : Int), .int .i64 (N.most : Int), .int .i64 (N.came : Int), .slice a N.l.length c, .slice a' N.downs.length c'] 41)) 41 [.int .i64 0, .int .i64 0, .int .i64 0, .slice none 0 0, .slice none 0 0])
            have ex : Ext w ((w.alloc (Obj.cells #[.int .i64 (N.ends : Int), .int .i64 (N.most : Int), .int .i64 (N.came : Int), .slice a N.l.length c, .slice a' N.downs.length c'] 41)).alloc (Obj.cells #[.int .i64 0, .int .i64 0, .int .i64 0, .slice none 0 0, .slice none 0 0] 41)) := (((Keeps.refl NoB w).alloc _).alloc _)
            have sx : ((w.alloc (Obj.cells #[.int .i64 (N.ends : Int), .int .i64 (N.most : Int), .int .i64 (N.came : Int), .slice a N.l.length c, .slice a' N.downs.length c'] 41)).alloc (Obj.cells #[.int .i64 0, .int .i64 0, .int .i64 0, .slice none 0 0, .slice none 0 0] 41)).heap.size = w.heap.size + 2 := by simp
            simp only [World.size_alloc] at bx1
            generalize ((w.alloc (Obj.cells #[.int .i64 (N.ends : Int), .int .i64 (N.most : Int), .int .i64 (N.came : Int), .slice a N.l.length c, .slice a' N.downs.length c'] 41)).alloc (Obj.cells #[.int .i64 0, .int .i64 0, .int .i64 0, .slice none 0 0, .slice none 0 0] 41)) = w0 at bx0 bx1 ex sx ⊢
            have Sx := Lib.hid sx
            clear sx
            have B0 := Lib.hid bx0
            have B1 := Lib.hid bx1
            have HE := Lib.hid ex
            clear ex bx0 bx1
            refine (rend_any w0 N _ _ f ⟨_, _, _, _, _, _, rfl, rfl⟩ he64).mono ?_
            rintro e w1 ⟨rfl, hE⟩
            replace HE := Lib.hid (HE.out.ext hE)
            replace B0 := Lib.hid (B0.out.ext hE)
            replace B1 := Lib.hid (B1.out.ext hE)
            clear hE
            rw [HF.out]
            obtain ⟨cB0, zB0⟩ := B0.out.reads
            have lB0 := B0.out.lt
            obtain ⟨cB1, zB1⟩ := B1.out.reads
            have lB1 := B1.out.lt
            go_wp2_with fail
            refine (rend_any w1 N _ _ t ⟨_, _, _, _, _, _, rfl, rfl⟩ he64).mono ?_
            rintro e w2 ⟨rfl, hE⟩
            replace HE := Lib.hid (HE.out.ext hE)
            replace B0 := Lib.hid (B0.out.ext hE)
            replace B1 := Lib.hid (B1.out.ext hE)
            clear hE
            rw [HT.out]
            have hlt8 : ¬ (8192 < (bl.length : Int)) := by have := HL.out; omega
            obtain ⟨cB0, zB0⟩ := B0.out.reads
            have lB0 := B0.out.lt
            obtain ⟨cB1, zB1⟩ := B1.out.reads
            have lB1 := B1.out.lt
            go_wp2_with fail
            clear cB0 zB0 lB0 cB1 zB1 lB1
            refine (risdown_any w2 _ N f t (HV.out.ext HE.out) hdl (fun k hk => Nat.lt_of_lt_of_le (HA.out k hk) HE.out.size)).mono ?_
            rintro e w3 ⟨rfl, hE⟩
            replace HE := Lib.hid (HE.out.ext hE)
            replace B0 := Lib.hid (B0.out.ext hE)
            replace B1 := Lib.hid (B1.out.ext hE)
            clear hE
            rw [decide_eq_false hd]
            have hm' : (N.most : Int) ≤ (N.l.length : Int) := by omega
            obtain ⟨cB0, zB0⟩ := B0.out.reads
            have lB0 := B0.out.lt
            obtain ⟨cB1, zB1⟩ := B1.out.reads
            have lB1 := B1.out.lt
            go_wp2_with fail
            have q1 := ((((((B1.out.set 0 (.int .i64 (NA.ends N : Int))).set 1 (.int .i64 (NA.most N : Int))).set 2 (.int .i64 (NA.came N : Int))).set 3 (.slice a N.l.length c))).set 4 (.slice a' N.downs.length c'))
            dsimp only [List.set_cons_zero, List.set_cons_succ] at q1
            have hk : Keeps (OneB (w.heap.size + 1)) w3 (((((w3.setCell ⟨(w.heap.size + 1), 0, none⟩ (.int .i64 (NA.ends N : Int))).setCell ⟨(w.heap.size + 1), 1, none⟩ (.int .i64 (NA.most N : Int))).setCell ⟨(w.heap.size + 1), 2, none⟩ (.int .i64 (NA.came N : Int))).setCell ⟨(w.heap.size + 1), 3, none⟩ (.slice a N.l.length c)).setCell ⟨(w.heap.size + 1), 4, none⟩ (.slice a' N.downs.length c')) :=
              (((((Keeps.refl _ _).setOne _ _).setOne _ _).setOne _ _).setOne _ _).setOne _ _
            have q2 := q1.reads.1
            generalize (((((w3.setCell ⟨(w.heap.size + 1), 0, none⟩ (.int .i64 (NA.ends N : Int))).setCell ⟨(w.heap.size + 1), 1, none⟩ (.int .i64 (NA.most N : Int))).setCell ⟨(w.heap.size + 1), 2, none⟩ (.int .i64 (NA.came N : Int))).setCell ⟨(w.heap.size + 1), 3, none⟩ (.slice a N.l.length c)).setCell ⟨(w.heap.size + 1), 4, none⟩ (.slice a' N.downs.length c')) = w9 at q1 q2 hk ⊢
            have hks := hk.size
            clear cB0 zB0 lB0 cB1 zB1 lB1
            refine bodyPost_ret (v := .tuple #[.agg #[.int .i64 (N.ends : Int), .int .i64 (N.most : Int), .int .i64 (N.came : Int), .slice a N.l.length c, .slice a' N.downs.length c'], .int .i64 0, .int .i64 211]) (by simp [results, Try.results47, go_sem, q2]) rfl ⟨rfl, ?_⟩
            exact HE.out.then hk (fun i hi h => by unfold OneB at h; omega)
          · rw [if_neg hm] at hk
            exact absurd hk.symm h0
end Go.Proofs.Ytdiogipdcpiffaa
