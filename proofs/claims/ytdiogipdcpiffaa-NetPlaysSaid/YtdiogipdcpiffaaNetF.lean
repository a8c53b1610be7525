/- The net's own functions, each by its contract: Len. Conditions: the net lies as 'NetX' says. -/
import Derived.Test.YtdiogipdcpiffaaNetE
set_option linter.unusedVariables false
set_option maxHeartbeats 400000
set_option maxRecDepth 10000
namespace Go.Proofs.Ytdiogipdcpiffaa
open Go.RowKit
attribute [local go_sem] Oper.semAt_some

theorem len_arg {F M : Nat → Prop} (w : World) (b : Nat) (N : NA) (f t : Int) (h : NetX w F M b N) (hk : N.link f t = false) :
    Calls Try.prog 14 #[.pointer (some ⟨b, 0, none⟩), .int .i64 f, .int .i64 t] w fun e w' => e = .returned (.int .i64 0) ∧ Ext w w' := by
  have HN := Lib.hid h
  have HK := Lib.hid hk
  clear h hk
  refine (callsIn_wide (n := 9)).1 (callsIn_of_wp_marks Try.func14 rfl trivial ?_ rfl)
  simp only [Try.ntmps14, List.size_toArray, List.length_cons, List.length_nil, Nat.reduceAdd, Nat.reduceSub, Array.replicate_succ, Array.replicate_zero, List.push_toArray, List.append_toArray, List.nil_append, List.cons_append]
  gi_wp2_with fail
  refine ⟨trivial, callsIn_wide.2 ((none_net w b N HN.out).mono ?_)⟩
  rintro e w' ⟨rfl, rfl⟩
  gi_wp2_with fail
  refine ⟨trivial, callsIn_wide.2 ((link_any w b N f t HN.out).mono ?_)⟩
  rintro e w1 ⟨rfl, hE⟩
  have HE := Lib.hid hE
  clear hE
  rw [HK.out]
  gi_wp2_with fail
  refine leaves_marks [] _ (by simp) (by simp) ?_
  intro w' hk
  exact ⟨.int .i64 0, by simp [results, Try.results14, go_sem], rfl, HE.out.then hk (fun i hi h => by simp at h)⟩
set_option maxRecDepth 100000 in
set_option maxHeartbeats 1000000 in
theorem len_some {F M : Nat → Prop} (w : World) (b : Nat) (N : NA) (f t : Int) (h : NetX w F M b N) (hk : N.link f t = true) :
    Calls Try.prog 14 #[.pointer (some ⟨b, 0, none⟩), .int .i64 f, .int .i64 t] w fun e w' => e = .returned (.int .i64 ((N.on f t).length : Nat)) ∧ Ext w w' := by
  have HN := Lib.hid h
  have HK := Lib.hid hk
  have hm := h.m1
  have hl := h.ll
  have HX := Lib.hid h.ok
  have HM := Lib.hid h.below
  clear h hk
  refine (callsIn_wide (n := 9)).1 (callsIn_of_wp_marks Try.func14 rfl trivial ?_ rfl)
  simp only [Try.ntmps14, List.size_toArray, List.length_cons, List.length_nil, Nat.reduceAdd, Nat.reduceSub, Array.replicate_succ, Array.replicate_zero, List.push_toArray, List.append_toArray, List.nil_append, List.cons_append]
  gi_wp2_with fail
  refine ⟨trivial, callsIn_wide.2 ((none_net w b N HN.out).mono ?_)⟩
  rintro e w' ⟨rfl, rfl⟩
  gi_wp2_with fail
  refine ⟨trivial, callsIn_wide.2 ((link_any w b N f t HN.out).mono ?_)⟩
  rintro e w1 ⟨rfl, hE⟩
  have HE := Lib.hid hE
  have h01 := hE.size
  replace HN := Lib.hid (HN.out.ext hE)
  clear hE
  rw [HK.out]
  gi_wp2_with fail
  refine ⟨trivial, callsIn_wide.2 ((on_any w1 f t).mono ?_)⟩
  rintro e w2 ⟨rfl, hq, hr, hE⟩
  have HQ := Lib.hid hq
  have HR := Lib.hid hr
  have h12 := hE.size
  have hqs := hq.lt
  have hrs := hr.lt
  replace HN := Lib.hid (HN.out.ext hE)
  replace HE := Lib.hid (HE.out.ext hE)
  clear hE hq hr
  gi_wp2_with fail
  have bx0 := ((Box.new w2 3 [.int .i64 0]).alloc (Obj.cells #[.func (.func 62) #[] #[.pointer (some ⟨w1.heap.size, 0, none⟩), .pointer (some ⟨w1.heap.size + 1, 0, none⟩)]] 85))
  have bx1 := (Box.new (w2.alloc (Obj.cells #[.int .i64 0] 3)) 85 [.func (.func 62) #[] #[.pointer (some ⟨w1.heap.size, 0, none⟩), .pointer (some ⟨w1.heap.size + 1, 0, none⟩)]])
  have ex : Ext w2 ((w2.alloc (Obj.cells #[.int .i64 0] 3)).alloc (Obj.cells #[.func (.func 62) #[] #[.pointer (some ⟨w1.heap.size, 0, none⟩), .pointer (some ⟨w1.heap.size + 1, 0, none⟩)]] 85)) := (((Keeps.refl NoB w2).alloc _).alloc _)
  have sx : ((w2.alloc (Obj.cells #[.int .i64 0] 3)).alloc (Obj.cells #[.func (.func 62) #[] #[.pointer (some ⟨w1.heap.size, 0, none⟩), .pointer (some ⟨w1.heap.size + 1, 0, none⟩)]] 85)).heap.size = w2.heap.size + 2 := by simp
  simp only [World.size_alloc] at bx1
  generalize ((w2.alloc (Obj.cells #[.int .i64 0] 3)).alloc (Obj.cells #[.func (.func 62) #[] #[.pointer (some ⟨w1.heap.size, 0, none⟩), .pointer (some ⟨w1.heap.size + 1, 0, none⟩)]] 85)) = w3 at bx0 bx1 ex sx ⊢
  have Sx := Lib.hid sx
  clear sx
  have BN := Lib.hid bx0
  have BF := Lib.hid bx1
  have h23 := bx0.lt
  have h23' := bx1.lt
  replace HN : Hid (NetX w3 F (fun k => M k ∨ (w2.heap.size ≤ k ∧ k < w3.heap.size)) b N) := Lib.hid (HN.out.more ex (fun k hk => .inl hk) (fun k hk => hk))
  replace HE := Lib.hid (HE.out.ext ex)
  replace HQ := Lib.hid (HQ.out.ext ex)
  replace HR := Lib.hid (HR.out.ext ex)
  clear ex bx0 bx1
  refine ⟨trivial, callsIn_wide.2 ((all_net w3 b N HN.out).mono ?_)⟩
  rintro e w4 ⟨rfl, hs, hE⟩
  have HS := Lib.hid hs
  have h34 := hE.size
  have hsl := hs.lt
  replace HE := Lib.hid (HE.out.ext hE)
  replace HQ := Lib.hid (HQ.out.ext hE)
  replace HR := Lib.hid (HR.out.ext hE)
  replace BN := Lib.hid (BN.out.ext hE)
  replace BF := Lib.hid (BF.out.ext hE)
  clear hE hs HN
  gi_wp2_with fail
  refine wpIn_range rfl (by omega) (gf := 45) (lb := #[.pointer (some ⟨w3.heap.size, 0, none⟩)]) rfl trivial (enters_of Try.func45 (by kernel_rfl) rfl)
    (S := OneB w2.heap.size) (iter_net w4 w3.heap.size N.l HS.out (by unfold OneB; omega) (fun k h1 h2 => by unfold OneB at h2; exact h1.2.1 (.inr (by omega))) (fun x hx => (HX.out x hx).1) (by omega)) (by rintro x v W0 W ⟨bv, rfl, _⟩; rfl)
    (fun k W => Keeps (OneB w2.heap.size) w4 W ∧ Box W w2.heap.size 3 [.int .i64 ((onTo f t N.l k).length : Int)])
    (fun _ _ _ => False) (fun k W h => h.1)
    (fun k W W' h hk => ⟨h.1.then hk (fun i hi h => by unfold OneB at h ⊢; omega), h.2.keeps hk (by unfold OneB; omega)⟩)
    (fun _ _ _ _ h _ => h) ⟨Keeps.refl _ _, BN.out⟩ ?_ ?_ (fun _ _ _ _ h _ => h.elim)
  · rintro k hk v W0 W - hE0 ⟨hkW, hb0⟩ ⟨bv, rfl, hbv, hwr, hn⟩ hlt0 hlt
    obtain ⟨av, cv, rfl⟩ := hbv.len
    have HKW := Lib.hid hkW
    have HB0 := Lib.hid hb0
    have HBV := Lib.hid hbv
    have h4W := hkW.size
    clear hkW hb0 hbv hwr
    obtain ⟨y, hy⟩ : ∃ y, N.l[k] = y := ⟨_, rfl⟩
    have hon := onTo_succ f t N.l k hk
    have hole := onTo_le f t N.l k
    rw [hy] at HBV hon ⊢
    have HON := Lib.hid hon
    have h0W := hE0.size
    clear hy hon hE0
    gi_wp2_with fail
    refine ⟨(Keeps.refl _ _).alloc _, fun W2 hW2 => ?_⟩
    have e2 : Keeps (OneB w2.heap.size) w4 W2 := (HKW.out.alloc _).then hW2 (fun i hi h => by unfold OneB at h; omega)
    have HBX := Lib.hid ((Box.new W 50 [.int .i64 (y.num : Int), .int .i64 y.src, .int .i64 y.dst, .slice av y.bytes.length cv]).keeps hW2 (by unfold OneB; omega))
    have C0 := Lib.hid ((HB0.out.alloc (Obj.cells #[.int .i64 (y.num : Int), .int .i64 y.src, .int .i64 y.dst, .slice av y.bytes.length cv] 50)).keeps hW2 (by unfold OneB; omega))
    have BF2 := Lib.hid (BF.out.keeps e2 (by unfold OneB; omega))
    have HQ2 := Lib.hid (HQ.out.keeps e2 (by unfold OneB; omega))
    have HR2 := Lib.hid (HR.out.keeps e2 (by unfold OneB; omega))
    have HV2 := Lib.hid ((HBV.out.keeps ((Keeps.refl NoB W).alloc (Obj.cells #[.int .i64 (y.num : Int), .int .i64 y.src, .int .i64 y.dst, .slice av y.bytes.length cv] 50)) (fun _ _ => noB _)).keeps hW2 (fun g hg h2 => by have := hg.1; unfold OneB at h2; omega))
    have HK2 := Lib.hid e2
    clear e2 hW2
    obtain ⟨cHBX, zHBX⟩ := HBX.out.reads
    have lHBX := HBX.out.lt
    obtain ⟨cBF2, zBF2⟩ := BF2.out.reads
    have lBF2 := BF2.out.lt
    gi_wp2_with fail
    refine ⟨trivial, calls_inRound ((on1_any W2 _ _ f t _ y ⟨_, rfl, HV2.out⟩ HQ2.out HR2.out).mono ?_)⟩
    rintro e W3 ⟨rfl, hE3⟩
    clear cHBX zHBX lHBX cBF2 zBF2 lBF2
    replace C0 := Lib.hid (C0.out.ext hE3)
    have HE3 := Lib.hid hE3
    have HK3 := Lib.hid (HK2.out.ext hE3)
    have h23W := hE3.size
    clear hE3
    obtain ⟨cC0, zC0⟩ := C0.out.reads
    have lC0 := C0.out.lt
    cases hh : NA.hit f t y with
    | false =>
      gi_wp2_with fail
      refine ⟨Ext.keeps HE3.out, HK3.out, ?_⟩
      rw [HON.out, hh]
      simpa using C0.out
    | true =>
      gi_wp2_with fail
      refine ⟨(Ext.keeps HE3.out).setCell _ _ (.inl (.inl ⟨by show w2.heap.size < w4.heap.size; omega, rfl⟩)), HK3.out.setCell _ _ (.inl rfl), ?_⟩
      have := C0.out.set 0 (.int .i64 (((onTo f t N.l k).length : Int) + 1))
      rw [HON.out, hh]
      simpa using this
  · rintro W ⟨hkW, hb0⟩ hm
    have HKW := Lib.hid hkW
    have C0 := Lib.hid hb0
    clear hkW hb0
    obtain ⟨cC0, zC0⟩ := C0.out.reads
    have lC0 := C0.out.lt
    gi_wp2_with fail
    refine leaves_marks [w4.heap.size] _ (by simp) ?_ ?_
    · intro D hD
      obtain rfl : D = w4.heap.size := by simpa using hD
      exact hm
    · intro w' hk
      refine ⟨.int .i64 ((N.on f t).length : Nat), by simp [results, Try.results14, go_sem, NA.on], rfl, ?_⟩
      exact ((HE.out.then HKW.out (fun i hi h => by unfold OneB at h; omega))).then hk (fun i hi h => by simp at h; omega)
end Go.Proofs.Ytdiogipdcpiffaa
