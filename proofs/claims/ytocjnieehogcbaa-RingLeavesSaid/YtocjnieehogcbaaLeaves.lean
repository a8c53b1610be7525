/- The walk of RingLeaves: its function returns true, and of what was there nothing turns. Conditions: its arguments lie as 'Acts' and 'ActV' say. -/
import Derived.Test.YtocjnieehogcbaaCopies
import Derived.Test.YtocjnieehogcbaaBrk
import Derived.BigFrameIn
import Derived.BigGuardIn
set_option linter.unusedVariables false
set_option maxHeartbeats 400000
namespace Go.Proofs.Ytocjnieehogcbaa
open Go.RowKit
attribute [local go_sem] Oper.semAt_some

/-- a byte of a slice set anew -/
theorem Bytes.bump {w : World} {A : Nat → Prop} {g o n c : Nat} {l : List UInt8} (h : Bytes w A (.slice (some ⟨g, o, none⟩) n c) l) (k : Nat) (hk : k < l.length) (d : UInt8) :
    Bytes (w.setCell ⟨g, o + k, none⟩ (byV d)) A (.slice (some ⟨g, o, none⟩) n c) (l.set k d) := by
  rcases h with ⟨a, h1, h2⟩ | ⟨b, o', c', h1, h2, h3, h4⟩
  · subst h2; simp at hk
  · cases h1
    refine .inr ⟨g, o, c, by simp, by simpa using h2, h3, fun i hi => ?_⟩
    have hi' : i < l.length := by simpa using hi
    have hc := h4 i hi'
    unfold ByteAt at hc ⊢
    simp only [Nat.mul_one] at hc ⊢
    have h4k := h4 k hk
    unfold ByteAt at h4k
    simp only [Nat.mul_one] at h4k
    rw [cell_set h4k (byV d)]
    by_cases hik : i = k
    · subst hik; simp
    · rw [if_neg (by simp; omega), hc, List.getElem_set_ne (by omega)]
theorem Wr.set {w : World} {v : Value} (h : Wr w v) (p : Addr) (u : Value) : Wr (w.setCell p u) v := by
  intro b o n c hv i
  have := h b o n c hv i
  rw [← this]
  simp [go_sem]
theorem Wr.keeps {w w' : World} {A S : Nat → Prop} {a : Option Addr} {c : Nat} {l : List UInt8} (hb : Bytes w A (.slice a l.length c) l) (h : Wr w (.slice a l.length c)) (hk : Keeps S w w') (hA : ∀ k, A k → ¬ S k ∧ k < w.heap.size) (hl : 0 < l.length) : Wr w' (.slice a l.length c) := by
  rcases hb with ⟨a', h1, h2⟩ | ⟨b, o', c', h1, h2, h3, h4⟩
  · subst h2; simp at hl
  · cases h1
    rintro b' o'' n'' c'' hv i
    cases hv
    rw [hk.frozen (hA _ h3).1 (hA _ h3).2]
    exact h _ _ _ _ rfl i

set_option maxRecDepth 100000 in
theorem leaves_few {A : Nat → Prop} (w : World) (v vx : Value) (many : Int) (l : List Ac) (x : Ac) (h : Acts w A v l) (hx : ActV w A vx x) (hn : l.length ≤ 9223372036854775807) (hb : ∀ x ∈ l, x.item.bytes.length ≤ 9223372036854775807)
    (hxl : x.item.bytes.length ≤ 9223372036854775807) (hf : fewOf l 30 = false) (hA : ∀ k, A k → k < w.heap.size) :
    Calls Try.prog 5 #[v, .int .i64 many, vx] w fun e w' => e = .returned (.bool true) ∧ Ext w w' := by
  have HAA := Lib.hid hA
  have HV := Lib.hid h
  have HB := Lib.hid hb
  obtain ⟨a, c, rfl, -⟩ := h.at
  obtain ⟨bx, rfl, hbx⟩ := hx
  have HX := Lib.hid hbx
  have HXL := Lib.hid hxl
  obtain ⟨ax, cx, rfl⟩ := hbx.len
  clear h hb hbx hA hxl
  refine (callsIn_wide (n := 9)).1 (callsIn_of_wp_marks Try.func5 rfl trivial ?_ rfl)
  simp only [Try.ntmps5, List.size_toArray, List.length_cons, List.length_nil, Nat.reduceAdd, Nat.reduceSub, Array.replicate_succ, Array.replicate_zero, List.push_toArray, List.append_toArray, List.nil_append, List.cons_append]
  gi_wp2_with fail
  have bz0 := (((Box.new w 3 [.int .i64 many]).alloc (Obj.cells #[.int .i64 x.what, .bool x.item.side, .int .i64 x.item.key, .slice ax x.item.bytes.length cx] 42)).alloc (Obj.cells #[.bool false] 4))
  have bz1 := ((Box.new (w.alloc (Obj.cells #[.int .i64 many] 3)) 42 [.int .i64 x.what, .bool x.item.side, .int .i64 x.item.key, .slice ax x.item.bytes.length cx]).alloc (Obj.cells #[.bool false] 4))
  have bz2 := (Box.new ((w.alloc (Obj.cells #[.int .i64 many] 3)).alloc (Obj.cells #[.int .i64 x.what, .bool x.item.side, .int .i64 x.item.key, .slice ax x.item.bytes.length cx] 42)) 4 [.bool false])
  have ez : Ext w (((w.alloc (Obj.cells #[.int .i64 many] 3)).alloc (Obj.cells #[.int .i64 x.what, .bool x.item.side, .int .i64 x.item.key, .slice ax x.item.bytes.length cx] 42)).alloc (Obj.cells #[.bool false] 4)) := ((((Keeps.refl NoB w).alloc _).alloc _).alloc _)
  have sz : (((w.alloc (Obj.cells #[.int .i64 many] 3)).alloc (Obj.cells #[.int .i64 x.what, .bool x.item.side, .int .i64 x.item.key, .slice ax x.item.bytes.length cx] 42)).alloc (Obj.cells #[.bool false] 4)).heap.size = w.heap.size + 3 := by simp
  simp only [World.size_alloc] at bz1 bz2
  generalize (((w.alloc (Obj.cells #[.int .i64 many] 3)).alloc (Obj.cells #[.int .i64 x.what, .bool x.item.side, .int .i64 x.item.key, .slice ax x.item.bytes.length cx] 42)).alloc (Obj.cells #[.bool false] 4)) = w0 at bz0 bz1 bz2 ez sz ⊢
  have Sz := Lib.hid sz
  clear sz
  have HE := Lib.hid ez
  have BM := Lib.hid bz0
  have BX := Lib.hid bz1
  have BR := Lib.hid bz2
  clear ez bz0 bz1 bz2
  obtain ⟨cBX, zBX⟩ := BX.out.reads
  have lBX := BX.out.lt
  obtain ⟨cBR, zBR⟩ := BR.out.reads
  have lBR := BR.out.lt
  refine ⟨trivial, callsIn_wide.2 ((few_any _ _ l 30 (HV.out.ext HE.out) hn HB.out).mono ?_)⟩
  rintro e w' ⟨rfl, rfl⟩
  rw [hf]
  gi_wp2_with fail
  refine ⟨trivial, ?_⟩
  gi_wp2_with fail
  refine ⟨trivial, callsIn_wide.2 ((works_any _).mono ?_)⟩
  rintro e w9 ⟨rfl, hE⟩
  have HE9 := Lib.hid (HE.out.ext hE)
  replace BR := Lib.hid (BR.out.ext hE)
  clear hE
  clear cBX zBX lBX cBR zBR lBR
  obtain ⟨cBR, zBR⟩ := BR.out.reads
  have lBR := BR.out.lt
  gi_wp2_with fail
  refine leaves_marks [] _ (by simp) (by simp) ?_
  intro w' hk
  have q0 : Box w' (w.heap.size + 1 + 1) 4 [.bool true] := Box.keeps (w := _) (BR.out.set 0 (.bool true)) hk (by simp)
  refine ⟨.bool true, by simp [results, Try.results5, go_sem, q0.reads.1], rfl, ?_⟩
  exact (HE9.out.then ((Keeps.refl (OneB (w.heap.size + 1 + 1)) w9).setOne 0 (.bool true)) (fun i hi h => by unfold OneB at h; omega)).then hk (fun i hi h => by simp at h)

set_option maxRecDepth 100000 in
theorem leaves_few2 {A : Nat → Prop} (w : World) (v vx : Value) (many : Int) (l : List Ac) (x : Ac) (h : Acts w A v l) (hx : ActV w A vx x) (hn : l.length ≤ 9223372036854775807) (hb : ∀ x ∈ l, x.item.bytes.length ≤ 9223372036854775807)
    (hxl : x.item.bytes.length ≤ 9223372036854775807) (hf : fewOf l 30 = true) (hf2 : fewOf [x] 1 = false) (hA : ∀ k, A k → k < w.heap.size) :
    Calls Try.prog 5 #[v, .int .i64 many, vx] w fun e w' => e = .returned (.bool true) ∧ Ext w w' := by
  have HAA := Lib.hid hA
  have HV := Lib.hid h
  have HB := Lib.hid hb
  obtain ⟨a, c, rfl, -⟩ := h.at
  obtain ⟨bx, rfl, hbx⟩ := hx
  have HX := Lib.hid hbx
  have HXL := Lib.hid hxl
  obtain ⟨ax, cx, rfl⟩ := hbx.len
  clear h hb hbx hA hxl
  refine (callsIn_wide (n := 9)).1 (callsIn_of_wp_marks Try.func5 rfl trivial ?_ rfl)
  simp only [Try.ntmps5, List.size_toArray, List.length_cons, List.length_nil, Nat.reduceAdd, Nat.reduceSub, Array.replicate_succ, Array.replicate_zero, List.push_toArray, List.append_toArray, List.nil_append, List.cons_append]
  gi_wp2_with fail
  have bz0 := (((Box.new w 3 [.int .i64 many]).alloc (Obj.cells #[.int .i64 x.what, .bool x.item.side, .int .i64 x.item.key, .slice ax x.item.bytes.length cx] 42)).alloc (Obj.cells #[.bool false] 4))
  have bz1 := ((Box.new (w.alloc (Obj.cells #[.int .i64 many] 3)) 42 [.int .i64 x.what, .bool x.item.side, .int .i64 x.item.key, .slice ax x.item.bytes.length cx]).alloc (Obj.cells #[.bool false] 4))
  have bz2 := (Box.new ((w.alloc (Obj.cells #[.int .i64 many] 3)).alloc (Obj.cells #[.int .i64 x.what, .bool x.item.side, .int .i64 x.item.key, .slice ax x.item.bytes.length cx] 42)) 4 [.bool false])
  have ez : Ext w (((w.alloc (Obj.cells #[.int .i64 many] 3)).alloc (Obj.cells #[.int .i64 x.what, .bool x.item.side, .int .i64 x.item.key, .slice ax x.item.bytes.length cx] 42)).alloc (Obj.cells #[.bool false] 4)) := ((((Keeps.refl NoB w).alloc _).alloc _).alloc _)
  have sz : (((w.alloc (Obj.cells #[.int .i64 many] 3)).alloc (Obj.cells #[.int .i64 x.what, .bool x.item.side, .int .i64 x.item.key, .slice ax x.item.bytes.length cx] 42)).alloc (Obj.cells #[.bool false] 4)).heap.size = w.heap.size + 3 := by simp
  simp only [World.size_alloc] at bz1 bz2
  generalize (((w.alloc (Obj.cells #[.int .i64 many] 3)).alloc (Obj.cells #[.int .i64 x.what, .bool x.item.side, .int .i64 x.item.key, .slice ax x.item.bytes.length cx] 42)).alloc (Obj.cells #[.bool false] 4)) = w0 at bz0 bz1 bz2 ez sz ⊢
  have Sz := Lib.hid sz
  clear sz
  have HE := Lib.hid ez
  have BM := Lib.hid bz0
  have BX := Lib.hid bz1
  have BR := Lib.hid bz2
  clear ez bz0 bz1 bz2
  obtain ⟨cBX, zBX⟩ := BX.out.reads
  have lBX := BX.out.lt
  obtain ⟨cBR, zBR⟩ := BR.out.reads
  have lBR := BR.out.lt
  refine ⟨trivial, callsIn_wide.2 ((few_any _ _ l 30 (HV.out.ext HE.out) hn HB.out).mono ?_)⟩
  rintro e w' ⟨rfl, rfl⟩
  rw [hf]
  gi_wp2_with fail
  have ek : Ext w0 (w0.alloc (Obj.cells #[.int .i64 x.what, .bool x.item.side, .int .i64 x.item.key, .slice ax x.item.bytes.length cx] 42)) := (Keeps.refl _ _).alloc _
  have bk := Box.new w0 42 [.int .i64 x.what, .bool x.item.side, .int .i64 x.item.key, .slice ax x.item.bytes.length cx]
  refine ⟨trivial, callsIn_wide.2 ((few_any (A := fun k => A k ∨ k = w0.heap.size) _ _ [x] 1 (acts_one bk ((HX.out.ext (HE.out.ext ek)).mono (fun k hk => .inl hk)) (.inr rfl)) (by simp) (by
    intro z hz
    simp only [List.mem_cons, List.not_mem_nil, or_false] at hz
    rcases hz with rfl
    exact HXL.out)).mono ?_)⟩
  rintro e w' ⟨rfl, rfl⟩
  have HE3 := Lib.hid (HE.out.ext ek)
  replace BR := Lib.hid (BR.out.ext ek)
  replace BX := Lib.hid (BX.out.ext ek)
  replace BM := Lib.hid (BM.out.ext ek)
  clear bk
  rw [hf2]
  have h01 := ek.size
  generalize w0.alloc (Obj.cells #[.int .i64 x.what, .bool x.item.side, .int .i64 x.item.key, .slice ax x.item.bytes.length cx] 42) = w1 at HE3 BR BX BM ek ⊢
  clear ek
  clear cBX zBX lBX cBR zBR lBR
  obtain ⟨cBX, zBX⟩ := BX.out.reads
  have lBX := BX.out.lt
  obtain ⟨cBR, zBR⟩ := BR.out.reads
  have lBR := BR.out.lt
  gi_wp2_with fail
  refine ⟨trivial, callsIn_wide.2 ((works_any _).mono ?_)⟩
  rintro e w9 ⟨rfl, hE⟩
  have HE9 := Lib.hid (HE3.out.ext hE)
  replace BR := Lib.hid (BR.out.ext hE)
  clear hE
  clear cBX zBX lBX cBR zBR lBR
  obtain ⟨cBR, zBR⟩ := BR.out.reads
  have lBR := BR.out.lt
  gi_wp2_with fail
  refine leaves_marks [] _ (by simp) (by simp) ?_
  intro w' hk
  have q0 : Box w' (w.heap.size + 1 + 1) 4 [.bool true] := Box.keeps (w := _) (BR.out.set 0 (.bool true)) hk (by simp)
  refine ⟨.bool true, by simp [results, Try.results5, go_sem, q0.reads.1], rfl, ?_⟩
  exact (HE9.out.then ((Keeps.refl (OneB (w.heap.size + 1 + 1)) w9).setOne 0 (.bool true)) (fun i hi h => by unfold OneB at h; omega)).then hk (fun i hi h => by simp at h)


theorem Mark.ext {w w' : World} {D : Nat} (h : Mark w D) (hk : Ext w w') : Mark w' D := h.keeps hk (noB _)
set_option maxRecDepth 100000 in
set_option maxHeartbeats 4000000 in
theorem leaves_in {A : Nat → Prop} (w : World) (v vx : Value) (many : Int) (l : List Ac) (x : Ac) (h : Acts w A v l) (hx : ActV w A vx x) (hn : l.length ≤ 9223372036854775807) (hb : ∀ x ∈ l, x.item.bytes.length ≤ 9223372036854775807)
    (hxl : x.item.bytes.length ≤ 9223372036854775807) (hf : fewOf l 30 = true) (hf2 : fewOf [x] 1 = true) (hA : ∀ k, A k → k < w.heap.size) :
    Calls Try.prog 5 #[v, .int .i64 many, vx] w fun e w' => e = .returned (.bool true) ∧ Ext w w' := by
  obtain ⟨hs200, hl30⟩ := few_spec hf
  obtain ⟨hs2, -⟩ := few_spec hf2
  have hx200 := hs2 x (by simp)
  have HS := Lib.hid hs200
  clear hs200 hs2
  have HAA := Lib.hid hA
  have HV := Lib.hid h
  have HB := Lib.hid hb
  obtain ⟨a, c, rfl, -⟩ := h.at
  obtain ⟨bx, rfl, hbx⟩ := hx
  have HX := Lib.hid hbx
  have HXL := Lib.hid hxl
  obtain ⟨ax, cx, rfl⟩ := hbx.len
  clear h hb hbx hA hxl
  refine (callsIn_wide (n := 9)).1 (callsIn_of_wp_marks Try.func5 rfl trivial ?_ rfl)
  simp only [Try.ntmps5, List.size_toArray, List.length_cons, List.length_nil, Nat.reduceAdd, Nat.reduceSub, Array.replicate_succ, Array.replicate_zero, List.push_toArray, List.append_toArray, List.nil_append, List.cons_append]
  gi_wp2_with fail
  have bz0 := (((Box.new w 3 [.int .i64 many]).alloc (Obj.cells #[.int .i64 x.what, .bool x.item.side, .int .i64 x.item.key, .slice ax x.item.bytes.length cx] 42)).alloc (Obj.cells #[.bool false] 4))
  have bz1 := ((Box.new (w.alloc (Obj.cells #[.int .i64 many] 3)) 42 [.int .i64 x.what, .bool x.item.side, .int .i64 x.item.key, .slice ax x.item.bytes.length cx]).alloc (Obj.cells #[.bool false] 4))
  have bz2 := (Box.new ((w.alloc (Obj.cells #[.int .i64 many] 3)).alloc (Obj.cells #[.int .i64 x.what, .bool x.item.side, .int .i64 x.item.key, .slice ax x.item.bytes.length cx] 42)) 4 [.bool false])
  have ez : Ext w (((w.alloc (Obj.cells #[.int .i64 many] 3)).alloc (Obj.cells #[.int .i64 x.what, .bool x.item.side, .int .i64 x.item.key, .slice ax x.item.bytes.length cx] 42)).alloc (Obj.cells #[.bool false] 4)) := ((((Keeps.refl NoB w).alloc _).alloc _).alloc _)
  have sz : (((w.alloc (Obj.cells #[.int .i64 many] 3)).alloc (Obj.cells #[.int .i64 x.what, .bool x.item.side, .int .i64 x.item.key, .slice ax x.item.bytes.length cx] 42)).alloc (Obj.cells #[.bool false] 4)).heap.size = w.heap.size + 3 := by simp
  simp only [World.size_alloc] at bz1 bz2
  generalize (((w.alloc (Obj.cells #[.int .i64 many] 3)).alloc (Obj.cells #[.int .i64 x.what, .bool x.item.side, .int .i64 x.item.key, .slice ax x.item.bytes.length cx] 42)).alloc (Obj.cells #[.bool false] 4)) = w0 at bz0 bz1 bz2 ez sz ⊢
  have Sz := Lib.hid sz
  clear sz
  have HE := Lib.hid ez
  have BM := Lib.hid bz0
  have BX := Lib.hid bz1
  have BR := Lib.hid bz2
  clear ez bz0 bz1 bz2
  obtain ⟨cBX, zBX⟩ := BX.out.reads
  have lBX := BX.out.lt
  obtain ⟨cBR, zBR⟩ := BR.out.reads
  have lBR := BR.out.lt
  refine ⟨trivial, callsIn_wide.2 ((few_any _ _ l 30 (HV.out.ext HE.out) hn HB.out).mono ?_)⟩
  rintro e w' ⟨rfl, rfl⟩
  rw [hf]
  gi_wp2_with fail
  have ek : Ext w0 (w0.alloc (Obj.cells #[.int .i64 x.what, .bool x.item.side, .int .i64 x.item.key, .slice ax x.item.bytes.length cx] 42)) := (Keeps.refl _ _).alloc _
  have bk := Box.new w0 42 [.int .i64 x.what, .bool x.item.side, .int .i64 x.item.key, .slice ax x.item.bytes.length cx]
  refine ⟨trivial, callsIn_wide.2 ((few_any (A := fun k => A k ∨ k = w0.heap.size) _ _ [x] 1 (acts_one bk ((HX.out.ext (HE.out.ext ek)).mono (fun k hk => .inl hk)) (.inr rfl)) (by simp) (by
    intro z hz
    simp only [List.mem_cons, List.not_mem_nil, or_false] at hz
    rcases hz with rfl
    exact HXL.out)).mono ?_)⟩
  rintro e w' ⟨rfl, rfl⟩
  have HE3 := Lib.hid (HE.out.ext ek)
  replace BR := Lib.hid (BR.out.ext ek)
  replace BX := Lib.hid (BX.out.ext ek)
  replace BM := Lib.hid (BM.out.ext ek)
  clear bk
  rw [hf2]
  generalize w0.alloc (Obj.cells #[.int .i64 x.what, .bool x.item.side, .int .i64 x.item.key, .slice ax x.item.bytes.length cx] 42) = w1 at HE3 BR BX BM ek ⊢
  have h01 := ek.size
  have hlz := BR.out.lt
  clear ek
  clear cBX zBX lBX cBR zBR lBR
  obtain ⟨cBX, zBX⟩ := BX.out.reads
  have lBX := BX.out.lt
  obtain ⟨cBR, zBR⟩ := BR.out.reads
  have lBR := BR.out.lt
  gi_wp2_with fail
  refine ⟨trivial, callsIn_wide.2 ((played_in (A := A) w1 5 _ l (HV.out.ext HE3.out) (by decide) (by decide) HS.out (by omega) (fun k hk => Nat.lt_of_lt_of_le (HAA.out k hk) HE3.out.size)).mono ?_)⟩
  rintro e w2 ⟨b, v2, rfl, hr, hw, hfit, hbn, hE⟩
  obtain ⟨R, hR⟩ : ∃ R, AR.acts ⟨5, 0, []⟩ l = R := ⟨_, rfl⟩
  rw [hR] at hr hw hfit
  obtain ⟨a2, cc2, rfl⟩ := hw.len
  have HR := Lib.hid hr
  have HW := Lib.hid hw
  have HMO := Lib.hid hfit.most
  have hlo := hfit.lost
  have hle := hr.le
  have hlb := hr.lt
  have HFI := Lib.hid hfit
  have HX6 : Hid (∀ x ∈ R.items, x.bytes.length ≤ 1000000) := Lib.hid (fun x hx => by have := hfit.small x hx; omega)
  have HE2 := Lib.hid (HE3.out.ext hE)
  clear cBX zBX lBX cBR zBR lBR
  replace BX := Lib.hid (BX.out.ext hE)
  replace BR := Lib.hid (BR.out.ext hE)
  replace BM := Lib.hid (BM.out.ext hE)
  obtain ⟨cBX, zBX⟩ := BX.out.reads
  have lBX := BX.out.lt
  obtain ⟨cBR, zBR⟩ := BR.out.reads
  have lBR := BR.out.lt
  have h12 := hE.size
  clear hE hr hw hR hfit
  gi_wp2_with fail
  have bp0 := (Box.new w2 48 [.int .i64 (R.most : Int), .slice a2 R.items.length cc2, .int .i64 (R.lost : Int)])
  have ep : Ext w2 (w2.alloc (Obj.cells #[.int .i64 (R.most : Int), .slice a2 R.items.length cc2, .int .i64 (R.lost : Int)] 48)) := ((Keeps.refl NoB w2).alloc _)
  have sp : (w2.alloc (Obj.cells #[.int .i64 (R.most : Int), .slice a2 R.items.length cc2, .int .i64 (R.lost : Int)] 48)).heap.size = w2.heap.size + 1 := by simp
  generalize (w2.alloc (Obj.cells #[.int .i64 (R.most : Int), .slice a2 R.items.length cc2, .int .i64 (R.lost : Int)] 48)) = w3 at bp0 ep sp ⊢
  have Sp := Lib.hid sp
  clear sp
  have BW := Lib.hid bp0
  have h23 := ep.size
  have hlw := bp0.lt
  clear cBX zBX lBX cBR zBR lBR
  replace HR := Lib.hid (HR.out.ext ep)
  replace HW := Lib.hid (HW.out.ext ep)
  replace HE2 := Lib.hid (HE2.out.ext ep)
  replace BX := Lib.hid (BX.out.ext ep)
  replace BR := Lib.hid (BR.out.ext ep)
  replace BM := Lib.hid (BM.out.ext ep)
  clear ep bp0
  refine ⟨trivial, callsIn_wide.2 ((all_x w3 b R HR.out HX6.out).mono ?_)⟩
  rintro e w4 ⟨rfl, hs, hE⟩
  have HSQ := Lib.hid hs
  have h34 := hE.size
  have hls := SeqAt.lt hs
  replace HR := Lib.hid (HR.out.ext hE)
  replace HW := Lib.hid (HW.out.ext hE)
  replace HE2 := Lib.hid (HE2.out.ext hE)
  replace BX := Lib.hid (BX.out.ext hE)
  replace BR := Lib.hid (BR.out.ext hE)
  replace BM := Lib.hid (BM.out.ext hE)
  replace BW := Lib.hid (BW.out.ext hE)
  clear hE hs
  obtain ⟨cBX, zBX⟩ := BX.out.reads
  have lBX := BX.out.lt
  obtain ⟨cBR, zBR⟩ := BR.out.reads
  have lBR := BR.out.lt
  obtain ⟨cBW, zBW⟩ := BW.out.reads
  have lBW := BW.out.lt
  gi_wp2_with fail
  refine ⟨trivial, callsIn_wide.2 ((act_any (M := OneB b) (N := NoB) (B := A) w4 b R _ _ x HR.out HW.out ⟨_, rfl, HX.out.ext HE2.out⟩ (fun k hk => by unfold OneB at hk; omega) (fun k hk => (noB _ hk).elim) rfl (noB _) (fun k hk => Nat.lt_of_lt_of_le (HAA.out k hk) HE2.out.size) (by have := HMO.out; omega) (by have := HMO.out; omega) (by omega) (by omega)).mono ?_)⟩
  rintro e w5 ⟨v9, rfl, hw9, hr9, hk9⟩
  have HFI1 := Lib.hid (HFI.out.act (by have := hle.1; exact this) x hx200)
  obtain ⟨R1, hR1⟩ : ∃ R1, R.act x = R1 := ⟨_, rfl⟩
  rw [hR1] at hw9 hr9 HFI1
  obtain ⟨a9, c9, rfl⟩ := hw9.len
  have HX61 : Hid (∀ x ∈ R1.items, x.bytes.length ≤ 1000000) := Lib.hid (fun x hx => by have := HFI1.out.small x hx; omega)
  have HN := Lib.hid hw9
  replace HR := Lib.hid hr9
  replace HW := Lib.hid (HW.out.keeps hk9 (fun k _ hk => hk))
  replace HSQ := Lib.hid (HSQ.out.keeps hk9 (by unfold OneB; omega) (fun k hk => by have := hk.1; unfold OneB; omega))
  clear cBX zBX lBX cBR zBR lBR cBW zBW lBW
  replace BX := Lib.hid (BX.out.keeps hk9 (by first | exact noB _ | (unfold OneB; omega) | (intro hk; simp at hk; omega) | omega))
  replace BR := Lib.hid (BR.out.keeps hk9 (by first | exact noB _ | (unfold OneB; omega) | (intro hk; simp at hk; omega) | omega))
  replace BM := Lib.hid (BM.out.keeps hk9 (by first | exact noB _ | (unfold OneB; omega) | (intro hk; simp at hk; omega) | omega))
  replace BW := Lib.hid (BW.out.keeps hk9 (by first | exact noB _ | (unfold OneB; omega) | (intro hk; simp at hk; omega) | omega))
  replace HE2 : Hid (Ext w w5) := Lib.hid (HE2.out.then hk9 (fun i hi h => by unfold OneB at h; omega))
  have h45 := hk9.size
  clear hk9 hw9 hr9 hR1
  obtain ⟨cBX, zBX⟩ := BX.out.reads
  have lBX := BX.out.lt
  obtain ⟨cBR, zBR⟩ := BR.out.reads
  have lBR := BR.out.lt
  obtain ⟨cBW, zBW⟩ := BW.out.reads
  have lBW := BW.out.lt
  gi_wp2_with fail
  have br0 := ((Box.new w5 48 [.int .i64 (R1.most : Int), .slice a9 R1.items.length c9, .int .i64 (R1.lost : Int)]).alloc (Obj.cells #[.int .i64 0] 3))
  have br1 := (Box.new (w5.alloc (Obj.cells #[.int .i64 (R1.most : Int), .slice a9 R1.items.length c9, .int .i64 (R1.lost : Int)] 48)) 3 [.int .i64 0])
  have er : Ext w5 ((w5.alloc (Obj.cells #[.int .i64 (R1.most : Int), .slice a9 R1.items.length c9, .int .i64 (R1.lost : Int)] 48)).alloc (Obj.cells #[.int .i64 0] 3)) := (((Keeps.refl NoB w5).alloc _).alloc _)
  have sr : ((w5.alloc (Obj.cells #[.int .i64 (R1.most : Int), .slice a9 R1.items.length c9, .int .i64 (R1.lost : Int)] 48)).alloc (Obj.cells #[.int .i64 0] 3)).heap.size = w5.heap.size + 2 := by simp
  simp only [World.size_alloc] at br1
  generalize ((w5.alloc (Obj.cells #[.int .i64 (R1.most : Int), .slice a9 R1.items.length c9, .int .i64 (R1.lost : Int)] 48)).alloc (Obj.cells #[.int .i64 0] 3)) = w6 at br0 br1 er sr ⊢
  have Sr := Lib.hid sr
  clear sr
  have BN := Lib.hid br0
  have BT := Lib.hid br1
  have h56 := er.size
  have hln := br1.lt
  clear cBX zBX lBX cBR zBR lBR cBW zBW lBW
  replace HR := Lib.hid (HR.out.ext er)
  replace HW := Lib.hid (HW.out.ext er)
  replace HE2 := Lib.hid (HE2.out.ext er)
  replace BX := Lib.hid (BX.out.ext er)
  replace BR := Lib.hid (BR.out.ext er)
  replace BM := Lib.hid (BM.out.ext er)
  replace BW := Lib.hid (BW.out.ext er)
  replace HSQ := Lib.hid (HSQ.out.ext er)
  replace HN := Lib.hid (HN.out.ext er)
  clear er br0 br1
  refine wpIn_loop_rounds 3 ?_
  rw [roundsIn_succ]
  have hsn := fun w => seq_nil w 41 (some ⟨w3.heap.size, 0, none⟩)
  obtain ⟨cBR, zBR⟩ := BR.out.reads
  have lBR := BR.out.lt
  obtain ⟨cBT, zBT⟩ := BT.out.reads
  have lBT := BT.out.lt
  gi_wp2_with fail
  clear hsn
  have bn0 := (Box.new w6 3 [.int .i64 0])
  have en : Ext w6 (w6.alloc (Obj.cells #[.int .i64 0] 3)) := ((Keeps.refl NoB w6).alloc _)
  have sn : (w6.alloc (Obj.cells #[.int .i64 0] 3)).heap.size = w6.heap.size + 1 := by simp
  generalize (w6.alloc (Obj.cells #[.int .i64 0] 3)) = w7 at bn0 en sn ⊢
  have Sn := Lib.hid sn
  clear sn
  have BC := Lib.hid bn0
  have h67 := en.size
  have hlc := bn0.lt
  clear cBR zBR lBR cBT zBT lBT
  replace HW : Hid (RefX w7 (fun k => k = b ∨ w6.heap.size ≤ k) _ _) := Lib.hid (HW.out.more en (fun k hk => hk))
  replace HN : Hid (RefX w7 (fun k => k = b ∨ w6.heap.size ≤ k) _ _) := Lib.hid (HN.out.more en (fun k hk => hk))
  replace HR := Lib.hid (HR.out.grow (N' := fun k => w6.heap.size ≤ k) (Ext.keeps en) (noB _) (fun k hk => .inr hk))
  replace HE2 := Lib.hid (HE2.out.ext en)
  replace BX := Lib.hid (BX.out.ext en)
  replace BR := Lib.hid (BR.out.ext en)
  replace BM := Lib.hid (BM.out.ext en)
  replace BW := Lib.hid (BW.out.ext en)
  replace HSQ := Lib.hid (HSQ.out.ext en)
  replace BN := Lib.hid (BN.out.ext en)
  replace BT := Lib.hid (BT.out.ext en)
  clear en bn0
  have hl6 := HSQ.out.lt
  refine wpIn_range_break rfl (by omega) (gf := 41) (lb := #[.pointer (some ⟨w3.heap.size, 0, none⟩)]) rfl trivial (enters_of Try.func41 (by kernel_rfl) rfl)
    (S := OneB w6.heap.size) (iter_ring w7 w3.heap.size R.items HSQ.out (by unfold OneB; omega) (fun k h1 h2 => by unfold OneB at h2; omega) HX6.out (by have := HMO.out; omega)) (by rintro x v W0 W ⟨bv, rfl, _⟩; rfl)
    (fun k W => Keeps (OneB w6.heap.size) w7 W ∧ Box W w6.heap.size 3 [.int .i64 (k : Int)] ∧ (k : Int) < max 1 many)
    (fun k W => Keeps (OneB w6.heap.size) w7 W ∧ Box W w6.heap.size 3 [.int .i64 (k : Int)] ∧ (k : Int) = max 1 many) (fun k W h => h.1)
    (fun k W W' h hk => ⟨h.1.then hk (fun i hi h => by unfold OneB at h ⊢; omega), h.2.1.keeps hk (by unfold OneB; omega), h.2.2⟩)
    (fun k W W' h hk => ⟨h.1.then hk (fun i hi h => by unfold OneB at h ⊢; omega), h.2.1.keeps hk (by unfold OneB; omega), h.2.2⟩) ⟨Keeps.refl _ _, BC.out, by omega⟩ ?_ ?_
  · skip
    -- one round of the range: item k
    rintro k hk v W0 W - hE0 ⟨hkW, hb0, hck⟩ ⟨bv, rfl, hbv, hwr, hn0⟩ hlt0 hlt
    obtain ⟨av, cv, rfl⟩ := hbv.len
    have HKW := Lib.hid hkW
    have HB0 := Lib.hid hb0
    have HBV := Lib.hid hbv
    have HWR := Lib.hid hwr
    have h7W := hkW.size
    have h0W := hE0.size
    have hnbW := hb0.lt
    clear hkW hb0 hbv hwr hE0
    obtain ⟨y, hy⟩ : ∃ y, R.items[k] = y := ⟨_, rfl⟩
    rw [hy] at HBV HWR ⊢
    have HY := Lib.hid hy
    clear hy
    gi_wp2_with fail
    refine ⟨(Keeps.refl _ _).alloc _, fun W2 hW2 => ?_⟩
    have e2 : Keeps (OneB w6.heap.size) w7 W2 := (HKW.out.alloc _).then hW2 (fun i hi h => by unfold OneB at h; omega)
    have bx := (Box.new W 31 [.bool y.side, .int .i64 y.key, .slice av y.bytes.length cv]).keeps hW2 (by unfold OneB; omega)
    have b0 := (HB0.out.alloc (Obj.cells #[.bool y.side, .int .i64 y.key, .slice av y.bytes.length cv] 31)).keeps hW2 (by unfold OneB; omega)
    have bw := BW.out.keeps e2 (by unfold OneB; omega)
    have bt := BT.out.keeps e2 (by unfold OneB; omega)
    have bm := BM.out.keeps e2 (by unfold OneB; omega)
    have hbv2 := ((HBV.out.keeps ((Keeps.refl NoB W).alloc (Obj.cells #[.bool y.side, .int .i64 y.key, .slice av y.bytes.length cv] 31)) (fun _ _ => noB _)).keeps hW2 (fun g hg h2 => by unfold OneB at h2; omega))
    have hwr2 : 0 < y.bytes.length → Wr W2 (.slice av y.bytes.length cv) := fun h0 =>
      Wr.keeps HBV.out HWR.out (((Keeps.refl (OneB (w7.heap.size + 1)) W).alloc (Obj.cells #[.bool y.side, .int .i64 y.key, .slice av y.bytes.length cv] 31)).then hW2 (fun i hi h => h)) (fun g hg => ⟨fun h2 => by unfold OneB at h2; omega, hg.2⟩) h0
    obtain ⟨-, hat⟩ := (HW.out.keeps e2 (fun i hi h => by unfold OneB at h; omega)).itAt
    obtain ⟨Ai, bl, ol, rfl, hc, hAb, i1, i2, bq, i3, i4⟩ := hat k hk
    rw [HY.out] at i1 i2 i4
    obtain ⟨aq, cq, rfl⟩ := i4.len
    have HI := Lib.hid i4
    have HV2 := Lib.hid hbv2
    have HWR2 := Lib.hid hwr2
    have HK2 := Lib.hid e2
    have HBX := Lib.hid bx
    have hs2 := hW2.size
    simp only [World.size_alloc] at hs2
    have C0 := Lib.hid b0
    have BW' := Lib.hid bw
    have BT' := Lib.hid bt
    have BM' := Lib.hid bm
    obtain ⟨cHBX, zHBX⟩ := HBX.out.reads
    have lHBX := HBX.out.lt
    obtain ⟨cC0, zC0⟩ := C0.out.reads
    have lC0 := C0.out.lt
    obtain ⟨cBW', zBW'⟩ := BW'.out.reads
    have lBW' := BW'.out.lt
    have g0 : decide (R.items.length ≤ k) = false := by simp; omega
    have g1 : (k : Int) < (R.items.length : Int) := by omega
    have hk1000 : k ≤ 1000 := by have := HMO.out; omega
    clear hat i4 hbv2 hwr2 bx b0 bw bt bm hW2 e2
    gi_wp2_with fail
    have hE0' : Keeps NoB W2 W2.drew := (Keeps.refl _ _).drew
    have hE0 : Keeps NoB W2 W2.drew := (Keeps.refl _ _).drew
    refine wpIn_region_plan [(3, 0), (0, 1), (3, 2), (0, 3), (0, 4), (0, 5), (3, 6), (0, 7), (3, 8), (3, 9), (0, 10), (3, 11)] [] [12, 13, 14] [12, 13, 14] (ClsE W2) (by kernel_rfl) (by rintro ⟨_, _, h⟩; exact h) (by kernel_rfl) (by kernel_rfl) (by kernel_rfl) rfl rfl (ClsE.of hE0) (fun _ _ _ d _ h => by cases d <;> exact h) ?_; simp only [planL, List.getElem?_toArray, List.getElem?_cons_succ, List.getElem?_cons_zero]
    refine plan_exact rfl (fun K hK => quiet_runX (v := ?_) ?_ (hK _ ?_)); rotate_left; (go_simp <;> with_reducible rfl); clear hK K; simp only [Act.put, List.setIfInBounds_toArray, List.set_cons_zero, List.set_cons_succ]
    refine plan_pure rfl (fun K hK => quiet_run (v := ?_) (fun W _ => ?_) (hK _ ?_)); rotate_left; (go_simp <;> with_reducible rfl); clear hK K; simp only [Act.put, List.setIfInBounds_toArray, List.set_cons_zero, List.set_cons_succ]
    refine plan_exact rfl (fun K hK => quiet_runX (v := ?_) ?_ (hK _ ?_)); rotate_left; (go_simp <;> with_reducible rfl); clear hK K; simp only [Act.put, List.setIfInBounds_toArray, List.set_cons_zero, List.set_cons_succ]
    refine plan_pure rfl (fun K hK => quiet_run (v := ?_) (fun W _ => ?_) (hK _ ?_)); rotate_left; (go_simp <;> with_reducible rfl); clear hK K; simp only [Act.put, List.setIfInBounds_toArray, List.set_cons_zero, List.set_cons_succ]
    refine plan_pure rfl (fun K hK => quiet_run (v := ?_) (fun W _ => ?_) (hK _ ?_)); rotate_left; (go_simp <;> with_reducible rfl); clear hK K; simp only [Act.put, List.setIfInBounds_toArray, List.set_cons_zero, List.set_cons_succ]
    refine plan_pure rfl (fun K hK => quiet_move' _ rfl (hK _ ?_)); clear hK K; simp only [Act.put, Act.eval, Array.getD_eq_getD_getElem?, List.getElem?_toArray, List.getElem?_cons_zero, List.getElem?_cons_succ, Option.getD_some, List.setIfInBounds_toArray, List.set_cons_zero, List.set_cons_succ]
    first
    | (refine plan_skip rfl ?_; simp only [Act.put, List.setIfInBounds_toArray, List.set_cons_zero, List.set_cons_succ])
    | (refine plan_exact rfl (fun K hK => quiet_runX (v := ?_) ?_ (hK _ ?_)); rotate_left; (go_simp <;> with_reducible rfl); clear hK K; simp only [Act.put, List.setIfInBounds_toArray, List.set_cons_zero, List.set_cons_succ])
    first
    | (refine plan_skip rfl ?_; simp only [Act.put, List.setIfInBounds_toArray, List.set_cons_zero, List.set_cons_succ])
    | (refine plan_pure rfl (fun K hK => quiet_run (v := ?_) (fun W _ => ?_) (hK _ ?_)); rotate_left; (go_simp <;> with_reducible rfl); clear hK K; simp only [Act.put, List.setIfInBounds_toArray, List.set_cons_zero, List.set_cons_succ])
    first
    | (refine plan_skip rfl ?_; simp only [Act.put, List.setIfInBounds_toArray, List.set_cons_zero, List.set_cons_succ])
    | (refine plan_exact rfl (fun K hK => quiet_runX (v := ?_) ?_ (hK _ ?_)); rotate_left; (go_simp <;> with_reducible rfl); clear hK K; simp only [Act.put, List.setIfInBounds_toArray, List.set_cons_zero, List.set_cons_succ])
    first
    | (refine plan_skip rfl ?_; simp only [Act.put, List.setIfInBounds_toArray, List.set_cons_zero, List.set_cons_succ])
    | (refine plan_exact rfl (fun K hK => quiet_runX (v := ?_) ?_ (hK _ ?_)); rotate_left; (go_simp <;> with_reducible rfl); clear hK K; simp only [Act.put, List.setIfInBounds_toArray, List.set_cons_zero, List.set_cons_succ])
    first
    | (refine plan_skip rfl ?_; simp only [Act.put, List.setIfInBounds_toArray, List.set_cons_zero, List.set_cons_succ])
    | (refine plan_pure rfl (fun K hK => quiet_run (v := ?_) (fun W _ => ?_) (hK _ ?_)); rotate_left; (go_simp <;> with_reducible rfl); clear hK K; simp only [Act.put, List.setIfInBounds_toArray, List.set_cons_zero, List.set_cons_succ])
    first
    | (refine plan_skip rfl ?_; simp only [Act.put, List.setIfInBounds_toArray, List.set_cons_zero, List.set_cons_succ])
    | (refine plan_exact rfl (fun K hK => quiet_runX (v := ?_) ?_ (hK _ ?_)); rotate_left; (go_simp <;> with_reducible rfl); clear hK K; simp only [Act.put, List.setIfInBounds_toArray, List.set_cons_zero, List.set_cons_succ])
    refine plan_nil ?_; simp only [tailL, List.filterMap_cons, List.filterMap_nil, List.getElem?_toArray, List.getElem?_cons_succ, List.getElem?_cons_zero]; change wpList _ _ _ (_ :: _ :: _ :: []) _ _
    go_wp2_with fail
    refine (same_item _ y y _ _ ⟨_, rfl, HV2.out.keeps hE0' (fun _ _ => noB _)⟩ ⟨_, rfl, HI.out.keeps hE0' (fun _ _ => noB _)⟩).mono ?_
    rintro e W3 ⟨rfl, hE3⟩
    rw [sameI_self]
    have hE03 : Ext W2 W3 := hE0'.ext hE3
    have HE3' := Lib.hid hE03
    have h23' := hE03.size
    clear hE3 hE03 hE0'
    go_wp2_with fail
    clear cHBX zHBX lHBX cC0 zC0 lC0 cBW' zBW' lBW'
    have HWR3 : Hid (0 < y.bytes.length → Wr W3 (.slice av y.bytes.length cv)) := Lib.hid (fun h0 => Wr.keeps HV2.out (HWR2.out h0) HE3'.out (fun g hg => ⟨noB _, by have := hg.2; omega⟩) h0)
    replace HBX := Lib.hid (HBX.out.ext HE3'.out)
    replace C0 := Lib.hid (C0.out.ext HE3'.out)
    replace BW' := Lib.hid (BW'.out.ext HE3'.out)
    replace BT' := Lib.hid (BT'.out.ext HE3'.out)
    replace BM' := Lib.hid (BM'.out.ext HE3'.out)
    replace HV2 := Lib.hid (HV2.out.ext HE3'.out)
    have HK3 := Lib.hid (HK2.out.ext HE3'.out)
    obtain ⟨cHBX, zHBX⟩ := HBX.out.reads
    have lHBX := HBX.out.lt
    obtain ⟨cC0, zC0⟩ := C0.out.reads
    have lC0 := C0.out.lt
    clear i1 i2
    have hyl := HX6.out _ (List.getElem_mem hk)
    rw [HY.out] at hyl
    gi_wp2_with fail
    gi_loopw [16] (fun i wr => ∃ (j : Nat) (l' : List UInt8), j ≤ y.bytes.length ∧ i = .int .i64 j ∧ Hid (l'.length = y.bytes.length ∧ Bytes wr (fun g => W0.heap.size ≤ g ∧ g < W.heap.size) (.slice av y.bytes.length cv) l' ∧ (0 < y.bytes.length → Wr wr (.slice av y.bytes.length cv))) ∧ Hid (Keeps (fun g => W0.heap.size ≤ g ∧ g < W.heap.size) W3 wr)) (fun i _ => y.bytes.length - (intOf i).toNat)
    case atStart => exact ⟨0, y.bytes, Nat.zero_le _, rfl, Lib.hid ⟨rfl, HV2.out, HWR3.out⟩, Lib.hid (Keeps.refl _ _)⟩
    case round =>
      obtain ⟨j, l', hj, rfl, hrow, hkp⟩ := hrel
      obtain ⟨hll, hby, hwy⟩ := hrow.out
      have bxr := HBX.out.keeps hkp.out (fun h2 => by have := h2.2; omega)
      have HBXr := Lib.hid bxr
      clear cHBX zHBX lHBX cC0 zC0 lC0
      obtain ⟨cHBXr, zHBXr⟩ := HBXr.out.reads
      have lHBXr := HBXr.out.lt
      have h3r := hkp.out.size
      clear bxr
      by_cases hlt : j < y.bytes.length
      · rcases hby with ⟨a', h1, h2⟩ | ⟨g, o, cap, h1, h2, h3, h4⟩
        · subst h2; simp at hll; omega
        · simp only [Value.slice.injEq] at h1
          obtain ⟨rfl, -, rfl⟩ := h1
          have hf0 := hwy (by omega) g o y.bytes.length cv rfl
          have hjl : j < l'.length := by omega
          have hc0 := h4 j hjl
          have hgw : g < wr.heap.size := by have := h3.2; omega
          unfold ByteAt at hc0
          simp only [Nat.mul_one] at hc0
          have hbump := byte_wrap l'[j]
          obtain ⟨d, hd⟩ : ∃ d, l'[j] + 1 = d := ⟨_, rfl⟩
          rw [hd] at hbump
          have HN1 := Lib.hid (Bytes.bump (Or.inr ⟨g, o, cv, by rw [hll], by rw [hll]; omega, h3, h4⟩ : Bytes wr (fun g => W0.heap.size ≤ g ∧ g < W.heap.size) (.slice (some ⟨g, o, none⟩) y.bytes.length cv) l') j hjl d)
          have HN2 := Lib.hid (Wr.set (hwy (by omega)) ⟨g, o + j, none⟩ (byV d))
          have HK1 := Lib.hid (hkp.out.setCell ⟨g, o + j, none⟩ (byV d) (.inl h3))
          have HLL := Lib.hid hll
          clear hrow hkp h4 hwy hd hll
          generalize l'[j] = cc at hc0 hbump
          unfold byV at hc0
          gi_wp2_with fail
          go_roundw
          case rel => exact ⟨j + 1, l'.set j d, by omega, by go_num, Lib.hid ⟨by rw [List.length_set]; exact HLL.out, HN1.out, fun _ => HN2.out⟩, HK1⟩
          case measure => simp [intOf]; omega
      · have HKP := Lib.hid hkp.out
        have HK4 := Lib.hid (HK3.out.then hkp.out (fun i hi h => by have := h.1; omega))
        have hnb : w6.heap.size < W0.heap.size := by omega
        replace C0 := Lib.hid (C0.out.keeps HKP.out (by first | exact noB _ | (unfold OneB; omega) | (intro hk; simp at hk; omega) | omega))
        replace BT' := Lib.hid (BT'.out.keeps HKP.out (by first | exact noB _ | (unfold OneB; omega) | (intro hk; simp at hk; omega) | omega))
        replace BM' := Lib.hid (BM'.out.keeps HKP.out (by first | exact noB _ | (unfold OneB; omega) | (intro hk; simp at hk; omega) | omega))
        clear hrow hkp hby hwy hll
        obtain ⟨cC0, zC0⟩ := C0.out.reads
        have lC0 := C0.out.lt
        obtain ⟨cBT', zBT'⟩ := BT'.out.reads
        have lBT' := BT'.out.lt
        obtain ⟨cBM', zBM'⟩ := BM'.out.reads
        have lBM' := BM'.out.lt
        have hke : Keeps (RB (OneB w6.heap.size) w7.heap.size) W2 wr := (Ext.keeps HE3'.out).then HKP.out (fun i hi h => .inr (by have := h.1; omega))
        have HKE := Lib.hid hke
        clear hke
        by_cases hbr : many ≤ (k : Int) + 1
        · gi_wp2_with fail
          refine ⟨HKE.out.setCell _ _ (.inl (.inl ⟨by show w6.heap.size < w7.heap.size; omega, rfl⟩)), rfl, HK4.out.setCell _ _ (.inl rfl), ?_, ?_⟩
          · have := C0.out.set 0 (.int .i64 ((k : Int) + 1))
            simpa using this
          · omega
        · gi_wp2_with fail
          refine ⟨HKE.out.setCell _ _ (.inl (.inl ⟨by show w6.heap.size < w7.heap.size; omega, rfl⟩)), HK4.out.setCell _ _ (.inl rfl), ?_, ?_⟩
          · have := C0.out.set 0 (.int .i64 ((k : Int) + 1))
            simpa using this
          · omega
  · intro W hW hm
    obtain ⟨N0, hkW, hb0, hN0⟩ : ∃ N0 : Nat, Keeps (OneB w6.heap.size) w7 W ∧ Box W w6.heap.size 3 [.int .i64 (N0 : Int)] ∧ (N0 : Int) = min (R.items.length : Int) (max 1 many) := by
      rcases hW with ⟨h1, h2, h3⟩ | ⟨k, hk, h1, h2, h3⟩
      · exact ⟨_, h1, h2, by omega⟩
      · exact ⟨_, h1, h2, by omega⟩
    obtain ⟨M, hM⟩ : ∃ M, max 1 many = M := ⟨_, rfl⟩
    rw [hM] at hN0
    have hmx : (if many > 1 then many else 1) = M := by rw [← hM]; split <;> omega
    have hmn : (if M < (R.items.length : Int) then M else (R.items.length : Int)) = (N0 : Int) := by rw [hN0]; split <;> omega
    have HKW := Lib.hid hkW
    have HM := Lib.hid hm
    have C0 := Lib.hid hb0
    replace BT := Lib.hid (BT.out.keeps HKW.out (by first | exact noB _ | (unfold OneB; omega) | (intro hk; simp at hk; omega) | omega))
    replace BM := Lib.hid (BM.out.keeps HKW.out (by first | exact noB _ | (unfold OneB; omega) | (intro hk; simp at hk; omega) | omega))
    replace BW := Lib.hid (BW.out.keeps HKW.out (by first | exact noB _ | (unfold OneB; omega) | (intro hk; simp at hk; omega) | omega))
    replace BR := Lib.hid (BR.out.keeps HKW.out (by first | exact noB _ | (unfold OneB; omega) | (intro hk; simp at hk; omega) | omega))
    replace BN := Lib.hid (BN.out.keeps HKW.out (by first | exact noB _ | (unfold OneB; omega) | (intro hk; simp at hk; omega) | omega))
    replace HW := Lib.hid (HW.out.keeps hkW (fun k hk h => .inr (by unfold OneB at h; omega)))
    replace HN := Lib.hid (HN.out.keeps hkW (fun k hk h => .inr (by unfold OneB at h; omega)))
    replace HR := Lib.hid (HR.out.keeps hkW (fun k h => by unfold OneB at h; omega) (by unfold OneB; omega))
    replace HSQ := Lib.hid (HSQ.out.keeps hkW (by unfold OneB; omega) (fun k hk h => by unfold OneB at h; have := hk.2; omega))
    replace HE2 : Hid (Ext w W) := Lib.hid (HE2.out.then hkW (fun i hi h => by unfold OneB at h; omega))
    have h7W := hkW.size
    clear hkW hm hb0 hN0 hM hW
    obtain ⟨cC0, zC0⟩ := C0.out.reads
    have lC0 := C0.out.lt
    obtain ⟨cBT, zBT⟩ := BT.out.reads
    have lBT := BT.out.lt
    obtain ⟨cBM, zBM⟩ := BM.out.reads
    have lBM := BM.out.lt
    obtain ⟨cBW, zBW⟩ := BW.out.reads
    have lBW := BW.out.lt
    obtain ⟨cBR, zBR⟩ := BR.out.reads
    have lBR := BR.out.lt
    gi_wp2_with fail
    have bt0 := (Box.new W 3 [.int .i64 1])
    have et : Ext W (W.alloc (Obj.cells #[.int .i64 1] 3)) := ((Keeps.refl NoB W).alloc _)
    have st : (W.alloc (Obj.cells #[.int .i64 1] 3)).heap.size = W.heap.size + 1 := by simp
    generalize (W.alloc (Obj.cells #[.int .i64 1] 3)) = w8 at bt0 et st ⊢
    have St := Lib.hid st
    clear st
    clear BT
    have BT := Lib.hid bt0
    have h8l := bt0.lt
    clear cC0 zC0 lC0 cBT zBT lBT cBM zBM lBM cBW zBW lBW cBR zBR lBR
    have HM8 := Lib.hid (HM.out.keeps et (noB _))
    replace HW := Lib.hid (HW.out.ext et)
    replace HN := Lib.hid (HN.out.ext et)
    replace HR := Lib.hid (HR.out.ext et)
    replace HSQ := Lib.hid (HSQ.out.ext et)
    replace HE2 := Lib.hid (HE2.out.ext et)
    replace BM := Lib.hid (BM.out.ext et)
    replace BW := Lib.hid (BW.out.ext et)
    replace BR := Lib.hid (BR.out.ext et)
    replace BN := Lib.hid (BN.out.ext et)
    clear et bt0 hmx hmn C0
    rw [roundsIn_succ]
    have hsn := fun w => seq_nil w 41 (some ⟨w3.heap.size, 0, none⟩)
    obtain ⟨cBR, zBR⟩ := BR.out.reads
    have lBR := BR.out.lt
    obtain ⟨cBT, zBT⟩ := BT.out.reads
    have lBT := BT.out.lt
    gi_wp2_with fail
    clear hsn
    have bn0 := (Box.new w8 3 [.int .i64 0])
    have en : Ext w8 (w8.alloc (Obj.cells #[.int .i64 0] 3)) := ((Keeps.refl NoB w8).alloc _)
    have sn : (w8.alloc (Obj.cells #[.int .i64 0] 3)).heap.size = w8.heap.size + 1 := by simp
    generalize (w8.alloc (Obj.cells #[.int .i64 0] 3)) = w9 at bn0 en sn ⊢
    have Sn := Lib.hid sn
    clear sn
    have BC := Lib.hid bn0
    have h89 := en.size
    have hlc9 := bn0.lt
    clear cBR zBR lBR cBT zBT lBT
    have HM9 := Lib.hid (HM8.out.keeps en (noB _))
    replace HW := Lib.hid (HW.out.ext en)
    replace HN := Lib.hid (HN.out.ext en)
    replace HR := Lib.hid (HR.out.ext en)
    replace HSQ := Lib.hid (HSQ.out.ext en)
    replace HE2 := Lib.hid (HE2.out.ext en)
    replace BM := Lib.hid (BM.out.ext en)
    replace BW := Lib.hid (BW.out.ext en)
    replace BR := Lib.hid (BR.out.ext en)
    replace BT := Lib.hid (BT.out.ext en)
    replace BN := Lib.hid (BN.out.ext en)
    clear en bn0
    have hl6' := HSQ.out.lt
    refine wpIn_range_break rfl (by omega) (gf := 41) (lb := #[.pointer (some ⟨w3.heap.size, 0, none⟩)]) rfl trivial (enters_of Try.func41 (by kernel_rfl) rfl)
      (S := OneB w8.heap.size) (iter_ring w9 w3.heap.size R.items HSQ.out (by unfold OneB; omega) (fun k h1 h2 => by unfold OneB at h2; omega) HX6.out (by have := HMO.out; omega)) (by rintro x v W0 W ⟨bv, rfl, _⟩; rfl)
      (fun k W => Keeps (OneB w8.heap.size) w9 W ∧ Box W w8.heap.size 3 [.int .i64 (k : Int)])
      (fun k W => False) (fun k W h => h.1)
      (fun k W W' h hk => ⟨h.1.then hk (fun i hi h => by unfold OneB at h ⊢; omega), h.2.keeps hk (by unfold OneB; omega)⟩)
      (fun k W W' h hk => h) ⟨Keeps.refl _ _, BC.out⟩ ?_ ?_
    · skip
      -- one round of the range: item k
      rintro k hk v W0 W - hE0 ⟨hkW, hb0⟩ ⟨bv, rfl, hbv, hwr, hn0⟩ hlt0 hlt
      obtain ⟨av, cv, rfl⟩ := hbv.len
      have HKW := Lib.hid hkW
      have HB0 := Lib.hid hb0
      have HBV := Lib.hid hbv
      have HWR := Lib.hid hwr
      have h7W := hkW.size
      have h0W := hE0.size
      have hnbW := hb0.lt
      clear hkW hb0 hbv hwr hE0
      obtain ⟨y, hy⟩ : ∃ y, R.items[k] = y := ⟨_, rfl⟩
      rw [hy] at HBV HWR ⊢
      have HY := Lib.hid hy
      clear hy
      gi_wp2_with fail
      refine ⟨(Keeps.refl _ _).alloc _, fun W2 hW2 => ?_⟩
      have e2 : Keeps (OneB w8.heap.size) w9 W2 := (HKW.out.alloc _).then hW2 (fun i hi h => by unfold OneB at h; omega)
      have bx := (Box.new W 31 [.bool y.side, .int .i64 y.key, .slice av y.bytes.length cv]).keeps hW2 (by unfold OneB; omega)
      have b0 := (HB0.out.alloc (Obj.cells #[.bool y.side, .int .i64 y.key, .slice av y.bytes.length cv] 31)).keeps hW2 (by unfold OneB; omega)
      have bw := BW.out.keeps e2 (by unfold OneB; omega)
      have bt := BT.out.keeps e2 (by unfold OneB; omega)
      have bm := BM.out.keeps e2 (by unfold OneB; omega)
      have hbv2 := ((HBV.out.keeps ((Keeps.refl NoB W).alloc (Obj.cells #[.bool y.side, .int .i64 y.key, .slice av y.bytes.length cv] 31)) (fun _ _ => noB _)).keeps hW2 (fun g hg h2 => by unfold OneB at h2; omega))
      have hwr2 : 0 < y.bytes.length → Wr W2 (.slice av y.bytes.length cv) := fun h0 =>
        Wr.keeps HBV.out HWR.out (((Keeps.refl (OneB (w9.heap.size + 1)) W).alloc (Obj.cells #[.bool y.side, .int .i64 y.key, .slice av y.bytes.length cv] 31)).then hW2 (fun i hi h => h)) (fun g hg => ⟨fun h2 => by unfold OneB at h2; omega, hg.2⟩) h0
      obtain ⟨-, hat⟩ := (HW.out.keeps e2 (fun i hi h => by unfold OneB at h; omega)).itAt
      obtain ⟨Ai, bl, ol, rfl, hc, hAb, i1, i2, bq, i3, i4⟩ := hat k hk
      rw [HY.out] at i1 i2 i4
      obtain ⟨aq, cq, rfl⟩ := i4.len
      have HI := Lib.hid i4
      have HV2 := Lib.hid hbv2
      have HWR2 := Lib.hid hwr2
      have HK2 := Lib.hid e2
      have HBX := Lib.hid bx
      have hs2 := hW2.size
      simp only [World.size_alloc] at hs2
      have C0 := Lib.hid b0
      have BW' := Lib.hid bw
      have BT' := Lib.hid bt
      have BM' := Lib.hid bm
      obtain ⟨cHBX, zHBX⟩ := HBX.out.reads
      have lHBX := HBX.out.lt
      obtain ⟨cC0, zC0⟩ := C0.out.reads
      have lC0 := C0.out.lt
      obtain ⟨cBW', zBW'⟩ := BW'.out.reads
      have lBW' := BW'.out.lt
      have g0 : decide (R.items.length ≤ k) = false := by simp; omega
      have g1 : (k : Int) < (R.items.length : Int) := by omega
      have hk1000 : k ≤ 1000 := by have := HMO.out; omega
      clear hat i4 hbv2 hwr2 bx b0 bw bt bm hW2 e2
      gi_wp2_with fail
      have hE0' : Keeps NoB W2 W2.drew := (Keeps.refl _ _).drew
      have hE0 : Keeps NoB W2 W2.drew := (Keeps.refl _ _).drew
      refine wpIn_region_plan [(3, 0), (0, 1), (3, 2), (0, 3), (0, 4), (0, 5), (3, 6), (0, 7), (3, 8), (3, 9), (0, 10), (3, 11)] [] [12, 13, 14] [12, 13, 14] (ClsE W2) (by kernel_rfl) (by rintro ⟨_, _, h⟩; exact h) (by kernel_rfl) (by kernel_rfl) (by kernel_rfl) rfl rfl (ClsE.of hE0) (fun _ _ _ d _ h => by cases d <;> exact h) ?_; simp only [planL, List.getElem?_toArray, List.getElem?_cons_succ, List.getElem?_cons_zero]
      refine plan_exact rfl (fun K hK => quiet_runX (v := ?_) ?_ (hK _ ?_)); rotate_left; (go_simp <;> with_reducible rfl); clear hK K; simp only [Act.put, List.setIfInBounds_toArray, List.set_cons_zero, List.set_cons_succ]
      refine plan_pure rfl (fun K hK => quiet_run (v := ?_) (fun W _ => ?_) (hK _ ?_)); rotate_left; (go_simp <;> with_reducible rfl); clear hK K; simp only [Act.put, List.setIfInBounds_toArray, List.set_cons_zero, List.set_cons_succ]
      refine plan_exact rfl (fun K hK => quiet_runX (v := ?_) ?_ (hK _ ?_)); rotate_left; (go_simp <;> with_reducible rfl); clear hK K; simp only [Act.put, List.setIfInBounds_toArray, List.set_cons_zero, List.set_cons_succ]
      refine plan_pure rfl (fun K hK => quiet_run (v := ?_) (fun W _ => ?_) (hK _ ?_)); rotate_left; (go_simp <;> with_reducible rfl); clear hK K; simp only [Act.put, List.setIfInBounds_toArray, List.set_cons_zero, List.set_cons_succ]
      refine plan_pure rfl (fun K hK => quiet_run (v := ?_) (fun W _ => ?_) (hK _ ?_)); rotate_left; (go_simp <;> with_reducible rfl); clear hK K; simp only [Act.put, List.setIfInBounds_toArray, List.set_cons_zero, List.set_cons_succ]
      refine plan_pure rfl (fun K hK => quiet_move' _ rfl (hK _ ?_)); clear hK K; simp only [Act.put, Act.eval, Array.getD_eq_getD_getElem?, List.getElem?_toArray, List.getElem?_cons_zero, List.getElem?_cons_succ, Option.getD_some, List.setIfInBounds_toArray, List.set_cons_zero, List.set_cons_succ]
      first
      | (refine plan_skip rfl ?_; simp only [Act.put, List.setIfInBounds_toArray, List.set_cons_zero, List.set_cons_succ])
      | (refine plan_exact rfl (fun K hK => quiet_runX (v := ?_) ?_ (hK _ ?_)); rotate_left; (go_simp <;> with_reducible rfl); clear hK K; simp only [Act.put, List.setIfInBounds_toArray, List.set_cons_zero, List.set_cons_succ])
      first
      | (refine plan_skip rfl ?_; simp only [Act.put, List.setIfInBounds_toArray, List.set_cons_zero, List.set_cons_succ])
      | (refine plan_pure rfl (fun K hK => quiet_run (v := ?_) (fun W _ => ?_) (hK _ ?_)); rotate_left; (go_simp <;> with_reducible rfl); clear hK K; simp only [Act.put, List.setIfInBounds_toArray, List.set_cons_zero, List.set_cons_succ])
      first
      | (refine plan_skip rfl ?_; simp only [Act.put, List.setIfInBounds_toArray, List.set_cons_zero, List.set_cons_succ])
      | (refine plan_exact rfl (fun K hK => quiet_runX (v := ?_) ?_ (hK _ ?_)); rotate_left; (go_simp <;> with_reducible rfl); clear hK K; simp only [Act.put, List.setIfInBounds_toArray, List.set_cons_zero, List.set_cons_succ])
      first
      | (refine plan_skip rfl ?_; simp only [Act.put, List.setIfInBounds_toArray, List.set_cons_zero, List.set_cons_succ])
      | (refine plan_exact rfl (fun K hK => quiet_runX (v := ?_) ?_ (hK _ ?_)); rotate_left; (go_simp <;> with_reducible rfl); clear hK K; simp only [Act.put, List.setIfInBounds_toArray, List.set_cons_zero, List.set_cons_succ])
      first
      | (refine plan_skip rfl ?_; simp only [Act.put, List.setIfInBounds_toArray, List.set_cons_zero, List.set_cons_succ])
      | (refine plan_pure rfl (fun K hK => quiet_run (v := ?_) (fun W _ => ?_) (hK _ ?_)); rotate_left; (go_simp <;> with_reducible rfl); clear hK K; simp only [Act.put, List.setIfInBounds_toArray, List.set_cons_zero, List.set_cons_succ])
      first
      | (refine plan_skip rfl ?_; simp only [Act.put, List.setIfInBounds_toArray, List.set_cons_zero, List.set_cons_succ])
      | (refine plan_exact rfl (fun K hK => quiet_runX (v := ?_) ?_ (hK _ ?_)); rotate_left; (go_simp <;> with_reducible rfl); clear hK K; simp only [Act.put, List.setIfInBounds_toArray, List.set_cons_zero, List.set_cons_succ])
      refine plan_nil ?_; simp only [tailL, List.filterMap_cons, List.filterMap_nil, List.getElem?_toArray, List.getElem?_cons_succ, List.getElem?_cons_zero]; change wpList _ _ _ (_ :: _ :: _ :: []) _ _
      go_wp2_with fail
      refine (same_item _ y y _ _ ⟨_, rfl, HV2.out.keeps hE0' (fun _ _ => noB _)⟩ ⟨_, rfl, HI.out.keeps hE0' (fun _ _ => noB _)⟩).mono ?_
      rintro e W3 ⟨rfl, hE3⟩
      rw [sameI_self]
      have hE03 : Ext W2 W3 := hE0'.ext hE3
      have HE3' := Lib.hid hE03
      have h23' := hE03.size
      clear hE3 hE03 hE0'
      go_wp2_with fail
      clear cHBX zHBX lHBX cC0 zC0 lC0 cBW' zBW' lBW'
      have HWR3 : Hid (0 < y.bytes.length → Wr W3 (.slice av y.bytes.length cv)) := Lib.hid (fun h0 => Wr.keeps HV2.out (HWR2.out h0) HE3'.out (fun g hg => ⟨noB _, by have := hg.2; omega⟩) h0)
      replace HBX := Lib.hid (HBX.out.ext HE3'.out)
      replace C0 := Lib.hid (C0.out.ext HE3'.out)
      replace BW' := Lib.hid (BW'.out.ext HE3'.out)
      replace BT' := Lib.hid (BT'.out.ext HE3'.out)
      replace BM' := Lib.hid (BM'.out.ext HE3'.out)
      replace HV2 := Lib.hid (HV2.out.ext HE3'.out)
      have HK3 := Lib.hid (HK2.out.ext HE3'.out)
      obtain ⟨cHBX, zHBX⟩ := HBX.out.reads
      have lHBX := HBX.out.lt
      obtain ⟨cC0, zC0⟩ := C0.out.reads
      have lC0 := C0.out.lt
      clear i1 i2
      have hyl := HX6.out _ (List.getElem_mem hk)
      rw [HY.out] at hyl
      gi_wp2_with fail
      gi_loopw [16] (fun i wr => ∃ (j : Nat) (l' : List UInt8), j ≤ y.bytes.length ∧ i = .int .i64 j ∧ Hid (l'.length = y.bytes.length ∧ Bytes wr (fun g => W0.heap.size ≤ g ∧ g < W.heap.size) (.slice av y.bytes.length cv) l' ∧ (0 < y.bytes.length → Wr wr (.slice av y.bytes.length cv))) ∧ Hid (Keeps (fun g => W0.heap.size ≤ g ∧ g < W.heap.size) W3 wr)) (fun i _ => y.bytes.length - (intOf i).toNat)
      case atStart => exact ⟨0, y.bytes, Nat.zero_le _, rfl, Lib.hid ⟨rfl, HV2.out, HWR3.out⟩, Lib.hid (Keeps.refl _ _)⟩
      case round =>
        obtain ⟨j, l', hj, rfl, hrow, hkp⟩ := hrel
        obtain ⟨hll, hby, hwy⟩ := hrow.out
        have bxr := HBX.out.keeps hkp.out (fun h2 => by have := h2.2; omega)
        have HBXr := Lib.hid bxr
        clear cHBX zHBX lHBX cC0 zC0 lC0
        obtain ⟨cHBXr, zHBXr⟩ := HBXr.out.reads
        have lHBXr := HBXr.out.lt
        have h3r := hkp.out.size
        clear bxr
        by_cases hlt : j < y.bytes.length
        · rcases hby with ⟨a', h1, h2⟩ | ⟨g, o, cap, h1, h2, h3, h4⟩
          · subst h2; simp at hll; omega
          · simp only [Value.slice.injEq] at h1
            obtain ⟨rfl, -, rfl⟩ := h1
            have hf0 := hwy (by omega) g o y.bytes.length cv rfl
            have hjl : j < l'.length := by omega
            have hc0 := h4 j hjl
            have hgw : g < wr.heap.size := by have := h3.2; omega
            unfold ByteAt at hc0
            simp only [Nat.mul_one] at hc0
            have hbump := byte_wrap l'[j]
            obtain ⟨d, hd⟩ : ∃ d, l'[j] + 1 = d := ⟨_, rfl⟩
            rw [hd] at hbump
            have HN1 := Lib.hid (Bytes.bump (Or.inr ⟨g, o, cv, by rw [hll], by rw [hll]; omega, h3, h4⟩ : Bytes wr (fun g => W0.heap.size ≤ g ∧ g < W.heap.size) (.slice (some ⟨g, o, none⟩) y.bytes.length cv) l') j hjl d)
            have HN2 := Lib.hid (Wr.set (hwy (by omega)) ⟨g, o + j, none⟩ (byV d))
            have HK1 := Lib.hid (hkp.out.setCell ⟨g, o + j, none⟩ (byV d) (.inl h3))
            have HLL := Lib.hid hll
            clear hrow hkp h4 hwy hd hll
            generalize l'[j] = cc at hc0 hbump
            unfold byV at hc0
            gi_wp2_with fail
            go_roundw
            case rel => exact ⟨j + 1, l'.set j d, by omega, by go_num, Lib.hid ⟨by rw [List.length_set]; exact HLL.out, HN1.out, fun _ => HN2.out⟩, HK1⟩
            case measure => simp [intOf]; omega
        · have HKP := Lib.hid hkp.out
          have HK4 := Lib.hid (HK3.out.then hkp.out (fun i hi h => by have := h.1; omega))
          have hnb : w8.heap.size < W0.heap.size := by omega
          replace C0 := Lib.hid (C0.out.keeps HKP.out (by first | exact noB _ | (unfold OneB; omega) | (intro hk; simp at hk; omega) | omega))
          replace BT' := Lib.hid (BT'.out.keeps HKP.out (by first | exact noB _ | (unfold OneB; omega) | (intro hk; simp at hk; omega) | omega))
          replace BM' := Lib.hid (BM'.out.keeps HKP.out (by first | exact noB _ | (unfold OneB; omega) | (intro hk; simp at hk; omega) | omega))
          clear hrow hkp hby hwy hll
          obtain ⟨cC0, zC0⟩ := C0.out.reads
          have lC0 := C0.out.lt
          obtain ⟨cBT', zBT'⟩ := BT'.out.reads
          have lBT' := BT'.out.lt
          obtain ⟨cBM', zBM'⟩ := BM'.out.reads
          have lBM' := BM'.out.lt
          have hke : Keeps (RB (OneB w8.heap.size) w9.heap.size) W2 wr := (Ext.keeps HE3'.out).then HKP.out (fun i hi h => .inr (by have := h.1; omega))
          have HKE := Lib.hid hke
          clear hke
          gi_wp2_with fail
          refine ⟨HKE.out.setCell _ _ (.inl (.inl ⟨by show w8.heap.size < w9.heap.size; omega, rfl⟩)), HK4.out.setCell _ _ (.inl rfl), ?_⟩
          have := C0.out.set 0 (.int .i64 ((k : Int) + 1))
          simpa using this
    · intro V hV hm
      obtain ⟨hkW, hb0⟩ : Keeps (OneB w8.heap.size) w9 V ∧ Box V w8.heap.size 3 [.int .i64 (R.items.length : Int)] := by
        rcases hV with h | ⟨k, hk, h⟩
        · exact h
        · exact h.elim
      have HKW2 := Lib.hid hkW
      have HM2 := Lib.hid hm
      have HM1 := Lib.hid (HM9.out.keeps hkW (by unfold OneB; have := HM.out.lt; omega))
      have C0 := Lib.hid hb0
      replace BT := Lib.hid (BT.out.keeps HKW2.out (by first | exact noB _ | (unfold OneB; omega) | (intro hk; simp at hk; omega) | omega))
      replace BM := Lib.hid (BM.out.keeps HKW2.out (by first | exact noB _ | (unfold OneB; omega) | (intro hk; simp at hk; omega) | omega))
      replace BW := Lib.hid (BW.out.keeps HKW2.out (by first | exact noB _ | (unfold OneB; omega) | (intro hk; simp at hk; omega) | omega))
      replace BR := Lib.hid (BR.out.keeps HKW2.out (by first | exact noB _ | (unfold OneB; omega) | (intro hk; simp at hk; omega) | omega))
      replace BN := Lib.hid (BN.out.keeps HKW2.out (by first | exact noB _ | (unfold OneB; omega) | (intro hk; simp at hk; omega) | omega))
      replace HN := Lib.hid (HN.out.keeps hkW (fun k hk h => .inr (by unfold OneB at h; omega)))
      replace HR := Lib.hid (HR.out.keeps hkW (fun k h => by unfold OneB at h; omega) (by unfold OneB; omega))
      replace HE2 : Hid (Ext w V) := Lib.hid (HE2.out.then hkW (fun i hi h => by unfold OneB at h; omega))
      have h9V := hkW.size
      clear hkW hm hb0 hV
      obtain ⟨cC0, zC0⟩ := C0.out.reads
      have lC0 := C0.out.lt
      obtain ⟨cBT, zBT⟩ := BT.out.reads
      have lBT := BT.out.lt
      obtain ⟨cBM, zBM⟩ := BM.out.reads
      have lBM := BM.out.lt
      obtain ⟨cBW, zBW⟩ := BW.out.reads
      have lBW := BW.out.lt
      obtain ⟨cBR, zBR⟩ := BR.out.reads
      have lBR := BR.out.lt
      gi_wp2_with fail
      have bu0 := (Box.new V 3 [.int .i64 2])
      have eu : Ext V (V.alloc (Obj.cells #[.int .i64 2] 3)) := ((Keeps.refl NoB V).alloc _)
      have su : (V.alloc (Obj.cells #[.int .i64 2] 3)).heap.size = V.heap.size + 1 := by simp
      generalize (V.alloc (Obj.cells #[.int .i64 2] 3)) = w10 at bu0 eu su ⊢
      have Su := Lib.hid su
      clear su
      clear BT
      have BT := Lib.hid bu0
      clear cC0 zC0 lC0 cBT zBT lBT cBM zBM lBM cBW zBW lBW cBR zBR lBR
      replace HN := Lib.hid (HN.out.ext eu)
      replace HR := Lib.hid (HR.out.ext eu)
      replace HE2 := Lib.hid (HE2.out.ext eu)
      replace BR := Lib.hid (BR.out.ext eu)
      replace BN := Lib.hid (BN.out.ext eu)
      replace HM1 := Lib.hid (HM1.out.ext eu)
      replace HM2 := Lib.hid (HM2.out.ext eu)
      clear eu bu0 C0
      rw [roundsIn_succ]
      obtain ⟨cBT, zBT⟩ := BT.out.reads
      have lBT := BT.out.lt
      obtain ⟨cBN, zBN⟩ := BN.out.reads
      have lBN := BN.out.lt
      obtain ⟨cBR, zBR⟩ := BR.out.reads
      have lBR := BR.out.lt
      gi_wp2_with fail
      refine ⟨trivial, callsIn_wide.2 ((is_any w10 b R1 _ HR.out HN.out HX61.out).mono ?_)⟩
      rintro e w11 ⟨rfl, hE⟩
      clear cBT zBT lBT cBN zBN lBN cBR zBR lBR
      replace HE2 := Lib.hid (HE2.out.ext hE)
      replace BR := Lib.hid (BR.out.ext hE)
      replace HM1 := Lib.hid (HM1.out.ext hE)
      replace HM2 := Lib.hid (HM2.out.ext hE)
      clear hE
      obtain ⟨cBR, zBR⟩ := BR.out.reads
      have lBR := BR.out.lt
      gi_wp2_with fail
      refine ⟨trivial, callsIn_wide.2 ((works_any _).mono ?_)⟩
      rintro e w12 ⟨rfl, hE⟩
      clear cBR zBR lBR
      replace HE2 := Lib.hid (HE2.out.ext hE)
      replace BR := Lib.hid (BR.out.ext hE)
      replace HM1 := Lib.hid (HM1.out.ext hE)
      replace HM2 := Lib.hid (HM2.out.ext hE)
      clear hE
      obtain ⟨cBR, zBR⟩ := BR.out.reads
      have lBR := BR.out.lt
      have hm1 := HM1.out.lt
      have hm2 := HM2.out.lt
      have h79 : w7.heap.size < w9.heap.size := by have := HM9.out.lt; omega
      have hwz : w.heap.size + 1 + 1 < w7.heap.size := by omega
      gi_wp2_with fail
      refine leaves_marks [w9.heap.size, w7.heap.size] _ (by simp; omega) ?_ ?_
      · intro D hD
        simp only [List.mem_cons, List.not_mem_nil, or_false] at hD
        rcases hD with rfl | rfl
        · exact HM2.out.keeps (S := OneB (w.heap.size + 1 + 1)) ((Keeps.refl _ _).setOne _ _) (by unfold OneB; omega)
        · exact HM1.out.keeps (S := OneB (w.heap.size + 1 + 1)) ((Keeps.refl _ _).setOne _ _) (by unfold OneB; omega)
      · intro w' hk
        have q0 : Box w' (w.heap.size + 1 + 1) 4 [.bool true] := Box.keeps (w := _) (BR.out.set 0 (.bool true)) hk (by simp; omega)
        refine ⟨.bool true, by simp [results, Try.results5, go_sem, q0.reads.1], rfl, ?_⟩
        exact (HE2.out.then ((Keeps.refl (OneB (w.heap.size + 1 + 1)) w12).setOne 0 (.bool true)) (fun i hi h => by unfold OneB at h; omega)).then hk (fun i hi h => by simp at h; omega)
end Go.Proofs.Ytocjnieehogcbaa
