/- The walk of NetLeaves: its function returns true, and of what was there nothing turns. Conditions: its arguments lie as 'Acts' and 'ActV' say. -/
import Derived.Test.YtdiogipdcpiffaaNPlayed
import Derived.Test.YtdiogipdcpiffaaBrk
import Derived.BigFrameIn
import Derived.BigGuardIn
set_option linter.unusedVariables false
set_option maxHeartbeats 400000
set_option maxRecDepth 10000
namespace Go.Proofs.Ytdiogipdcpiffaa
open Go.RowKit
attribute [local go_sem] Oper.semAt_some

theorem acts_one {A : Nat → Prop} {w : World} {b : Nat} {t : TypeId} {x : Ac} {vx : Value} (hb : Box w b t [.int .i64 x.what, .int .i64 x.src, .int .i64 x.dst, .int .i64 x.pick, vx, .bool x.is])
    (h1 : Bytes w A vx x.bytes) (hA : A b) : Acts w A (.slice (some ⟨b, 0, none⟩) 1 1) [x] := by
  have hr := hb.reads.1
  refine .inr ⟨b, 0, 1, rfl, Nat.le_refl _, hA, fun i hi => ?_⟩
  match i, hi with
  | 0, _ => exact ⟨_, ⟨vx, rfl, h1⟩, rfl, fun j hj => by rw [Nat.zero_mul, Nat.zero_add]; exact hr j⟩
set_option maxRecDepth 100000 in
theorem leaves_few {A : Nat → Prop} (w : World) (v vx : Value) (many : Int) (l : List Ac) (x : Ac) (h : Acts w A v l) (hx : ActV w A vx x) (hn : l.length ≤ 9223372036854775807) (hb : ∀ x ∈ l, x.bytes.length ≤ 9223372036854775807)
    (hxl : x.bytes.length ≤ 9223372036854775807) (hf : fewOf l 30 = false) (hA : ∀ k, A k → k < w.heap.size) :
    Calls Try.prog 4 #[v, .int .i64 many, vx] w fun e w' => e = .returned (.bool true) ∧ Ext w w' := by
  have HAA := Lib.hid hA
  have HV := Lib.hid h
  have HB := Lib.hid hb
  obtain ⟨a, c, rfl, -⟩ := h.at
  obtain ⟨bx, rfl, hbx⟩ := hx
  have HX := Lib.hid hbx
  have HXL := Lib.hid hxl
  obtain ⟨ax, cx, rfl⟩ := hbx.len
  clear h hb hbx hA hxl
  refine (callsIn_wide (n := 9)).1 (callsIn_of_wp_marks Try.func4 rfl trivial ?_ rfl)
  simp only [Try.ntmps4, List.size_toArray, List.length_cons, List.length_nil, Nat.reduceAdd, Nat.reduceSub, Array.replicate_succ, Array.replicate_zero, List.push_toArray, List.append_toArray, List.nil_append, List.cons_append]
  gi_wp2_with fail
  have bz0 := (((Box.new w 3 [.int .i64 many]).alloc (Obj.cells #[.int .i64 x.what, .int .i64 x.src, .int .i64 x.dst, .int .i64 x.pick, .slice ax x.bytes.length cx, .bool x.is] 36)).alloc (Obj.cells #[.bool false] 4))
  have bz1 := ((Box.new (w.alloc (Obj.cells #[.int .i64 many] 3)) 36 [.int .i64 x.what, .int .i64 x.src, .int .i64 x.dst, .int .i64 x.pick, .slice ax x.bytes.length cx, .bool x.is]).alloc (Obj.cells #[.bool false] 4))
  have bz2 := (Box.new ((w.alloc (Obj.cells #[.int .i64 many] 3)).alloc (Obj.cells #[.int .i64 x.what, .int .i64 x.src, .int .i64 x.dst, .int .i64 x.pick, .slice ax x.bytes.length cx, .bool x.is] 36)) 4 [.bool false])
  have ez : Ext w (((w.alloc (Obj.cells #[.int .i64 many] 3)).alloc (Obj.cells #[.int .i64 x.what, .int .i64 x.src, .int .i64 x.dst, .int .i64 x.pick, .slice ax x.bytes.length cx, .bool x.is] 36)).alloc (Obj.cells #[.bool false] 4)) := ((((Keeps.refl NoB w).alloc _).alloc _).alloc _)
  have sz : (((w.alloc (Obj.cells #[.int .i64 many] 3)).alloc (Obj.cells #[.int .i64 x.what, .int .i64 x.src, .int .i64 x.dst, .int .i64 x.pick, .slice ax x.bytes.length cx, .bool x.is] 36)).alloc (Obj.cells #[.bool false] 4)).heap.size = w.heap.size + 3 := by simp
  simp only [World.size_alloc] at bz1 bz2
  generalize (((w.alloc (Obj.cells #[.int .i64 many] 3)).alloc (Obj.cells #[.int .i64 x.what, .int .i64 x.src, .int .i64 x.dst, .int .i64 x.pick, .slice ax x.bytes.length cx, .bool x.is] 36)).alloc (Obj.cells #[.bool false] 4)) = w0 at bz0 bz1 bz2 ez sz ⊢
  have Sz := Lib.hid sz
  clear sz
  have HE := Lib.hid ez
  have BM := Lib.hid bz0
  have BX := Lib.hid bz1
  have BR := Lib.hid bz2
  clear ez bz0 bz1 bz2
  obtain ⟨cBX, zBX⟩ := BX.out.reads
  have lBX := BX.out.lt
  obtain ⟨cBR, zBR⟩ := BR.out.reads
  have lBR := BR.out.lt
  refine ⟨trivial, callsIn_wide.2 ((few_any _ _ l 30 (HV.out.ext HE.out) hn HB.out).mono ?_)⟩
  rintro e w' ⟨rfl, rfl⟩
  rw [hf]
  gi_wp2_with fail
  refine ⟨trivial, ?_⟩
  gi_wp2_with fail
  refine ⟨trivial, callsIn_wide.2 ((works_any _).mono ?_)⟩
  rintro e w9 ⟨rfl, hE⟩
  have HE9 := Lib.hid (HE.out.ext hE)
  replace BR := Lib.hid (BR.out.ext hE)
  clear hE
  clear cBX zBX lBX cBR zBR lBR
  obtain ⟨cBR, zBR⟩ := BR.out.reads
  have lBR := BR.out.lt
  gi_wp2_with fail
  refine leaves_marks [] _ (by simp) (by simp) ?_
  intro w' hk
  have q0 : Box w' (w.heap.size + 1 + 1) 4 [.bool true] := Box.keeps (w := _) (BR.out.set 0 (.bool true)) hk (by simp)
  refine ⟨.bool true, by simp [results, Try.results4, go_sem, q0.reads.1], rfl, ?_⟩
  exact (HE9.out.then ((Keeps.refl (OneB (w.heap.size + 1 + 1)) w9).setOne 0 (.bool true)) (fun i hi h => by unfold OneB at h; omega)).then hk (fun i hi h => by simp at h)

set_option maxRecDepth 100000 in
theorem leaves_few2 {A : Nat → Prop} (w : World) (v vx : Value) (many : Int) (l : List Ac) (x : Ac) (h : Acts w A v l) (hx : ActV w A vx x) (hn : l.length ≤ 9223372036854775807) (hb : ∀ x ∈ l, x.bytes.length ≤ 9223372036854775807)
    (hxl : x.bytes.length ≤ 9223372036854775807) (hf : fewOf l 30 = true) (hf2 : fewOf [x] 1 = false) (hA : ∀ k, A k → k < w.heap.size) :
    Calls Try.prog 4 #[v, .int .i64 many, vx] w fun e w' => e = .returned (.bool true) ∧ Ext w w' := by
  have HAA := Lib.hid hA
  have HV := Lib.hid h
  have HB := Lib.hid hb
  obtain ⟨a, c, rfl, -⟩ := h.at
  obtain ⟨bx, rfl, hbx⟩ := hx
  have HX := Lib.hid hbx
  have HXL := Lib.hid hxl
  obtain ⟨ax, cx, rfl⟩ := hbx.len
  clear h hb hbx hA hxl
  refine (callsIn_wide (n := 9)).1 (callsIn_of_wp_marks Try.func4 rfl trivial ?_ rfl)
  simp only [Try.ntmps4, List.size_toArray, List.length_cons, List.length_nil, Nat.reduceAdd, Nat.reduceSub, Array.replicate_succ, Array.replicate_zero, List.push_toArray, List.append_toArray, List.nil_append, List.cons_append]
  gi_wp2_with fail
  have bz0 := (((Box.new w 3 [.int .i64 many]).alloc (Obj.cells #[.int .i64 x.what, .int .i64 x.src, .int .i64 x.dst, .int .i64 x.pick, .slice ax x.bytes.length cx, .bool x.is] 36)).alloc (Obj.cells #[.bool false] 4))
  have bz1 := ((Box.new (w.alloc (Obj.cells #[.int .i64 many] 3)) 36 [.int .i64 x.what, .int .i64 x.src, .int .i64 x.dst, .int .i64 x.pick, .slice ax x.bytes.length cx, .bool x.is]).alloc (Obj.cells #[.bool false] 4))
  have bz2 := (Box.new ((w.alloc (Obj.cells #[.int .i64 many] 3)).alloc (Obj.cells #[.int .i64 x.what, .int .i64 x.src, .int .i64 x.dst, .int .i64 x.pick, .slice ax x.bytes.length cx, .bool x.is] 36)) 4 [.bool false])
  have ez : Ext w (((w.alloc (Obj.cells #[.int .i64 many] 3)).alloc (Obj.cells #[.int .i64 x.what, .int .i64 x.src, .int .i64 x.dst, .int .i64 x.pick, .slice ax x.bytes.length cx, .bool x.is] 36)).alloc (Obj.cells #[.bool false] 4)) := ((((Keeps.refl NoB w).alloc _).alloc _).alloc _)
  have sz : (((w.alloc (Obj.cells #[.int .i64 many] 3)).alloc (Obj.cells #[.int .i64 x.what, .int .i64 x.src, .int .i64 x.dst, .int .i64 x.pick, .slice ax x.bytes.length cx, .bool x.is] 36)).alloc (Obj.cells #[.bool false] 4)).heap.size = w.heap.size + 3 := by simp
  simp only [World.size_alloc] at bz1 bz2
  generalize (((w.alloc (Obj.cells #[.int .i64 many] 3)).alloc (Obj.cells #[.int .i64 x.what, .int .i64 x.src, .int .i64 x.dst, .int .i64 x.pick, .slice ax x.bytes.length cx, .bool x.is] 36)).alloc (Obj.cells #[.bool false] 4)) = w0 at bz0 bz1 bz2 ez sz ⊢
  have Sz := Lib.hid sz
  clear sz
  have HE := Lib.hid ez
  have BM := Lib.hid bz0
  have BX := Lib.hid bz1
  have BR := Lib.hid bz2
  clear ez bz0 bz1 bz2
  obtain ⟨cBX, zBX⟩ := BX.out.reads
  have lBX := BX.out.lt
  obtain ⟨cBR, zBR⟩ := BR.out.reads
  have lBR := BR.out.lt
  refine ⟨trivial, callsIn_wide.2 ((few_any _ _ l 30 (HV.out.ext HE.out) hn HB.out).mono ?_)⟩
  rintro e w' ⟨rfl, rfl⟩
  rw [hf]
  gi_wp2_with fail
  have ek : Ext w0 (w0.alloc (Obj.cells #[.int .i64 x.what, .int .i64 x.src, .int .i64 x.dst, .int .i64 x.pick, .slice ax x.bytes.length cx, .bool x.is] 36)) := (Keeps.refl _ _).alloc _
  have bk := Box.new w0 36 [.int .i64 x.what, .int .i64 x.src, .int .i64 x.dst, .int .i64 x.pick, .slice ax x.bytes.length cx, .bool x.is]
  refine ⟨trivial, callsIn_wide.2 ((few_any (A := fun k => A k ∨ k = w0.heap.size) _ _ [x] 1 (acts_one bk ((HX.out.ext (HE.out.ext ek)).mono (fun k hk => .inl hk)) (.inr rfl)) (by simp) (by
    intro z hz
    simp only [List.mem_cons, List.not_mem_nil, or_false] at hz
    rcases hz with rfl
    exact HXL.out)).mono ?_)⟩
  rintro e w' ⟨rfl, rfl⟩
  have HE3 := Lib.hid (HE.out.ext ek)
  replace BR := Lib.hid (BR.out.ext ek)
  replace BX := Lib.hid (BX.out.ext ek)
  replace BM := Lib.hid (BM.out.ext ek)
  clear bk
  rw [hf2]
  have h01 := ek.size
  generalize w0.alloc (Obj.cells #[.int .i64 x.what, .int .i64 x.src, .int .i64 x.dst, .int .i64 x.pick, .slice ax x.bytes.length cx, .bool x.is] 36) = w1 at HE3 BR BX BM ek ⊢
  clear ek
  clear cBX zBX lBX cBR zBR lBR
  obtain ⟨cBX, zBX⟩ := BX.out.reads
  have lBX := BX.out.lt
  obtain ⟨cBR, zBR⟩ := BR.out.reads
  have lBR := BR.out.lt
  gi_wp2_with fail
  refine ⟨trivial, callsIn_wide.2 ((works_any _).mono ?_)⟩
  rintro e w9 ⟨rfl, hE⟩
  have HE9 := Lib.hid (HE3.out.ext hE)
  replace BR := Lib.hid (BR.out.ext hE)
  clear hE
  clear cBX zBX lBX cBR zBR lBR
  obtain ⟨cBR, zBR⟩ := BR.out.reads
  have lBR := BR.out.lt
  gi_wp2_with fail
  refine leaves_marks [] _ (by simp) (by simp) ?_
  intro w' hk
  have q0 : Box w' (w.heap.size + 1 + 1) 4 [.bool true] := Box.keeps (w := _) (BR.out.set 0 (.bool true)) hk (by simp)
  refine ⟨.bool true, by simp [results, Try.results4, go_sem, q0.reads.1], rfl, ?_⟩
  exact (HE9.out.then ((Keeps.refl (OneB (w.heap.size + 1 + 1)) w9).setOne 0 (.bool true)) (fun i hi h => by unfold OneB at h; omega)).then hk (fun i hi h => by simp at h)


set_option maxRecDepth 100000 in
set_option maxHeartbeats 4000000 in
theorem leaves_in {A : Nat → Prop} (w : World) (v vx : Value) (many : Int) (l : List Ac) (x : Ac) (h : Acts w A v l) (hx : ActV w A vx x) (hn : l.length ≤ 9223372036854775807) (hb : ∀ x ∈ l, x.bytes.length ≤ 9223372036854775807)
    (hxl : x.bytes.length ≤ 9223372036854775807) (hf : fewOf l 30 = true) (hf2 : fewOf [x] 1 = true) (hok : ∀ x ∈ l, x.ok) (hxo : x.ok) (hA : ∀ k, A k → k < w.heap.size) :
    Calls Try.prog 4 #[v, .int .i64 many, vx] w fun e w' => e = .returned (.bool true) ∧ Ext w w' := by
  obtain ⟨hs200, hl30⟩ := few_spec hf
  obtain ⟨hs2, -⟩ := few_spec hf2
  have hx200 := hs2 x (by simp)
  have HS := Lib.hid hs200
  clear hs200 hs2
  have HOK := Lib.hid hok
  have HXO := Lib.hid hxo
  clear hok hxo
  have HAA := Lib.hid hA
  have HV := Lib.hid h
  have HB := Lib.hid hb
  obtain ⟨a, c, rfl, -⟩ := h.at
  obtain ⟨bx, rfl, hbx⟩ := hx
  have HX := Lib.hid hbx
  have HXL := Lib.hid hxl
  obtain ⟨ax, cx, rfl⟩ := hbx.len
  clear h hb hbx hA hxl
  refine (callsIn_wide (n := 9)).1 (callsIn_of_wp_marks Try.func4 rfl trivial ?_ rfl)
  simp only [Try.ntmps4, List.size_toArray, List.length_cons, List.length_nil, Nat.reduceAdd, Nat.reduceSub, Array.replicate_succ, Array.replicate_zero, List.push_toArray, List.append_toArray, List.nil_append, List.cons_append]
  gi_wp2_with fail
  have bz0 := (((Box.new w 3 [.int .i64 many]).alloc (Obj.cells #[.int .i64 x.what, .int .i64 x.src, .int .i64 x.dst, .int .i64 x.pick, .slice ax x.bytes.length cx, .bool x.is] 36)).alloc (Obj.cells #[.bool false] 4))
  have bz1 := ((Box.new (w.alloc (Obj.cells #[.int .i64 many] 3)) 36 [.int .i64 x.what, .int .i64 x.src, .int .i64 x.dst, .int .i64 x.pick, .slice ax x.bytes.length cx, .bool x.is]).alloc (Obj.cells #[.bool false] 4))
  have bz2 := (Box.new ((w.alloc (Obj.cells #[.int .i64 many] 3)).alloc (Obj.cells #[.int .i64 x.what, .int .i64 x.src, .int .i64 x.dst, .int .i64 x.pick, .slice ax x.bytes.length cx, .bool x.is] 36)) 4 [.bool false])
  have ez : Ext w (((w.alloc (Obj.cells #[.int .i64 many] 3)).alloc (Obj.cells #[.int .i64 x.what, .int .i64 x.src, .int .i64 x.dst, .int .i64 x.pick, .slice ax x.bytes.length cx, .bool x.is] 36)).alloc (Obj.cells #[.bool false] 4)) := ((((Keeps.refl NoB w).alloc _).alloc _).alloc _)
  have sz : (((w.alloc (Obj.cells #[.int .i64 many] 3)).alloc (Obj.cells #[.int .i64 x.what, .int .i64 x.src, .int .i64 x.dst, .int .i64 x.pick, .slice ax x.bytes.length cx, .bool x.is] 36)).alloc (Obj.cells #[.bool false] 4)).heap.size = w.heap.size + 3 := by simp
  simp only [World.size_alloc] at bz1 bz2
  generalize (((w.alloc (Obj.cells #[.int .i64 many] 3)).alloc (Obj.cells #[.int .i64 x.what, .int .i64 x.src, .int .i64 x.dst, .int .i64 x.pick, .slice ax x.bytes.length cx, .bool x.is] 36)).alloc (Obj.cells #[.bool false] 4)) = w0 at bz0 bz1 bz2 ez sz ⊢
  have Sz := Lib.hid sz
  clear sz
  have HE := Lib.hid ez
  have BM := Lib.hid bz0
  have BX := Lib.hid bz1
  have BR := Lib.hid bz2
  clear ez bz0 bz1 bz2
  obtain ⟨cBX, zBX⟩ := BX.out.reads
  have lBX := BX.out.lt
  obtain ⟨cBR, zBR⟩ := BR.out.reads
  have lBR := BR.out.lt
  refine ⟨trivial, callsIn_wide.2 ((few_any _ _ l 30 (HV.out.ext HE.out) hn HB.out).mono ?_)⟩
  rintro e w' ⟨rfl, rfl⟩
  rw [hf]
  gi_wp2_with fail
  have ek : Ext w0 (w0.alloc (Obj.cells #[.int .i64 x.what, .int .i64 x.src, .int .i64 x.dst, .int .i64 x.pick, .slice ax x.bytes.length cx, .bool x.is] 36)) := (Keeps.refl _ _).alloc _
  have bk := Box.new w0 36 [.int .i64 x.what, .int .i64 x.src, .int .i64 x.dst, .int .i64 x.pick, .slice ax x.bytes.length cx, .bool x.is]
  refine ⟨trivial, callsIn_wide.2 ((few_any (A := fun k => A k ∨ k = w0.heap.size) _ _ [x] 1 (acts_one bk ((HX.out.ext (HE.out.ext ek)).mono (fun k hk => .inl hk)) (.inr rfl)) (by simp) (by
    intro z hz
    simp only [List.mem_cons, List.not_mem_nil, or_false] at hz
    rcases hz with rfl
    exact HXL.out)).mono ?_)⟩
  rintro e w' ⟨rfl, rfl⟩
  have HE3 := Lib.hid (HE.out.ext ek)
  replace BR := Lib.hid (BR.out.ext ek)
  replace BX := Lib.hid (BX.out.ext ek)
  replace BM := Lib.hid (BM.out.ext ek)
  clear bk
  rw [hf2]
  generalize w0.alloc (Obj.cells #[.int .i64 x.what, .int .i64 x.src, .int .i64 x.dst, .int .i64 x.pick, .slice ax x.bytes.length cx, .bool x.is] 36) = w1 at HE3 BR BX BM ek ⊢
  have h01 := ek.size
  have hlz := BR.out.lt
  clear ek
  clear cBX zBX lBX cBR zBR lBR
  obtain ⟨cBX, zBX⟩ := BX.out.reads
  have lBX := BX.out.lt
  obtain ⟨cBR, zBR⟩ := BR.out.reads
  have lBR := BR.out.lt
  gi_wp2_with fail
  refine ⟨trivial, callsIn_wide.2 ((played_in (A := A) w1 4 20 _ l (HV.out.ext HE3.out) (by decide) (by decide) (by decide) (by decide) (fun x hx => ⟨HOK.out x hx, HS.out x hx⟩) (by omega) (fun k hk => Nat.lt_of_lt_of_le (HAA.out k hk) HE3.out.size)).mono ?_)⟩
  rintro e w2 ⟨F, M, b, v2, rfl, hrig, hw, hbd⟩
  obtain ⟨N, hN⟩ : ∃ N, (NA.new 4 20).acts l = N := ⟨_, rfl⟩
  rw [hN] at hrig hw hbd
  obtain ⟨a2, cc2, a2', cc2', rfl⟩ := hw.len
  have HR := Lib.hid hrig
  have HR2 : Hid (∀ k, M k → k < w2.heap.size) := Lib.hid hrig.net.below
  have HW := Lib.hid hw
  have HBD := Lib.hid hbd
  have hle : N.l.length ≤ 4096 := hbd.l
  have HX6 : Hid (∀ x ∈ N.l, x.bytes.length ≤ 8192) := Lib.hid (fun x hx => (hrig.net.ok x hx).1)
  have hE := hrig.E
  have HE2 := Lib.hid (HE3.out.ext hE)
  clear cBX zBX lBX cBR zBR lBR
  replace BX := Lib.hid (BX.out.ext hE)
  replace BR := Lib.hid (BR.out.ext hE)
  replace BM := Lib.hid (BM.out.ext hE)
  obtain ⟨cBX, zBX⟩ := BX.out.reads
  have lBX := BX.out.lt
  obtain ⟨cBR, zBR⟩ := BR.out.reads
  have lBR := BR.out.lt
  have h12 := hE.size
  clear hE hrig hw hbd hN
  gi_wp2_with fail
  have bp0 := (Box.new w2 41 [.int .i64 (N.ends : Int), .int .i64 (N.most : Int), .int .i64 (N.came : Int), .slice a2 N.l.length cc2, .slice a2' N.downs.length cc2'])
  have ep : Ext w2 (w2.alloc (Obj.cells #[.int .i64 (N.ends : Int), .int .i64 (N.most : Int), .int .i64 (N.came : Int), .slice a2 N.l.length cc2, .slice a2' N.downs.length cc2'] 41)) := ((Keeps.refl NoB w2).alloc _)
  have sp : (w2.alloc (Obj.cells #[.int .i64 (N.ends : Int), .int .i64 (N.most : Int), .int .i64 (N.came : Int), .slice a2 N.l.length cc2, .slice a2' N.downs.length cc2'] 41)).heap.size = w2.heap.size + 1 := by simp
  generalize (w2.alloc (Obj.cells #[.int .i64 (N.ends : Int), .int .i64 (N.most : Int), .int .i64 (N.came : Int), .slice a2 N.l.length cc2, .slice a2' N.downs.length cc2'] 41)) = w3 at bp0 ep sp ⊢
  have Sp := Lib.hid sp
  clear sp
  have BW := Lib.hid bp0
  have h23 := ep.size
  have hlw := bp0.lt
  clear cBX zBX lBX cBR zBR lBR
  replace HR := Lib.hid (HR.out.ext ep)
  replace HW := Lib.hid (HW.out.ext ep)
  replace HE2 := Lib.hid (HE2.out.ext ep)
  replace BX := Lib.hid (BX.out.ext ep)
  replace BR := Lib.hid (BR.out.ext ep)
  replace BM := Lib.hid (BM.out.ext ep)
  clear ep bp0
  refine ⟨trivial, callsIn_wide.2 ((all_net w3 b N HR.out.net).mono ?_)⟩
  rintro e w4 ⟨rfl, hs, hE⟩
  have HSQ := Lib.hid hs
  have h34 := hE.size
  have hls := SeqN.lt hs
  replace HR := Lib.hid (HR.out.ext hE)
  replace HW := Lib.hid (HW.out.ext hE)
  replace HE2 := Lib.hid (HE2.out.ext hE)
  replace BX := Lib.hid (BX.out.ext hE)
  replace BR := Lib.hid (BR.out.ext hE)
  replace BM := Lib.hid (BM.out.ext hE)
  replace BW := Lib.hid (BW.out.ext hE)
  clear hE hs
  obtain ⟨cBX, zBX⟩ := BX.out.reads
  have lBX := BX.out.lt
  obtain ⟨cBR, zBR⟩ := BR.out.reads
  have lBR := BR.out.lt
  obtain ⟨cBW, zBW⟩ := BW.out.reads
  have lBW := BW.out.lt
  gi_wp2_with fail
  refine ⟨trivial, callsIn_wide.2 ((act_any (B := A) w4 b N _ _ x l.length HR.out.net HW.out ⟨_, rfl, HX.out.ext HE2.out⟩ HXO.out (by omega) HBD.out (by omega)).mono ?_)⟩
  rintro e w5 ⟨F5, M5, v9, rfl, hn9, hw9, hs9⟩
  obtain ⟨a9, c9, a9', c9', rfl⟩ := hw9.len
  have hbase : ∀ k, F k → w1.heap.size ≤ k ∧ k < w2.heap.size := fun k hk => ⟨HR.out.base k (HR.out.net.FM k hk), HR2.out k (HR.out.net.FM k hk)⟩
  replace HW := Lib.hid (HW.out.go hs9.keeps (fun k _ hk => HR.out.net.FM k hk) (fun k hk => hs9.inM k hk))
  replace HSQ := Lib.hid (HSQ.out.keeps hs9.keeps (fun h => by have := hbase _ h; omega) (fun k hk h => hk.2.1 (HR.out.net.FM k h)))
  clear cBX zBX lBX cBR zBR lBR cBW zBW lBW
  replace BX := Lib.hid (BX.out.keeps hs9.keeps (fun h => by have := hbase _ h; omega))
  replace BR := Lib.hid (BR.out.keeps hs9.keeps (fun h => by have := hbase _ h; omega))
  replace BM := Lib.hid (BM.out.keeps hs9.keeps (fun h => by have := hbase _ h; omega))
  replace BW := Lib.hid (BW.out.keeps hs9.keeps (fun h => by have := hbase _ h; omega))
  replace HE2 : Hid (Ext w w5) := Lib.hid (HE2.out.then hs9.keeps (fun i hi h => by have := hbase _ h; omega))
  have h45 := hs9.keeps.size
  clear hs9 hw9 hn9 hbase
  obtain ⟨cBX, zBX⟩ := BX.out.reads
  have lBX := BX.out.lt
  obtain ⟨cBR, zBR⟩ := BR.out.reads
  have lBR := BR.out.lt
  obtain ⟨cBW, zBW⟩ := BW.out.reads
  have lBW := BW.out.lt
  gi_wp2_with fail
  have br0 := ((Box.new w5 41 [.int .i64 ((N.act x).ends : Int), .int .i64 ((N.act x).most : Int), .int .i64 ((N.act x).came : Int), .slice a9 (N.act x).l.length c9, .slice a9' (N.act x).downs.length c9']).alloc (Obj.cells #[.int .i64 0] 3))
  have br1 := (Box.new (w5.alloc (Obj.cells #[.int .i64 ((N.act x).ends : Int), .int .i64 ((N.act x).most : Int), .int .i64 ((N.act x).came : Int), .slice a9 (N.act x).l.length c9, .slice a9' (N.act x).downs.length c9'] 41)) 3 [.int .i64 0])
  have er : Ext w5 ((w5.alloc (Obj.cells #[.int .i64 ((N.act x).ends : Int), .int .i64 ((N.act x).most : Int), .int .i64 ((N.act x).came : Int), .slice a9 (N.act x).l.length c9, .slice a9' (N.act x).downs.length c9'] 41)).alloc (Obj.cells #[.int .i64 0] 3)) := (((Keeps.refl NoB w5).alloc _).alloc _)
  have sr : ((w5.alloc (Obj.cells #[.int .i64 ((N.act x).ends : Int), .int .i64 ((N.act x).most : Int), .int .i64 ((N.act x).came : Int), .slice a9 (N.act x).l.length c9, .slice a9' (N.act x).downs.length c9'] 41)).alloc (Obj.cells #[.int .i64 0] 3)).heap.size = w5.heap.size + 2 := by simp
  simp only [World.size_alloc] at br1
  generalize ((w5.alloc (Obj.cells #[.int .i64 ((N.act x).ends : Int), .int .i64 ((N.act x).most : Int), .int .i64 ((N.act x).came : Int), .slice a9 (N.act x).l.length c9, .slice a9' (N.act x).downs.length c9'] 41)).alloc (Obj.cells #[.int .i64 0] 3)) = w6 at br0 br1 er sr ⊢
  have Sr := Lib.hid sr
  clear sr
  have BT := Lib.hid br1
  have h56 := er.size
  have hln := br1.lt
  clear cBX zBX lBX cBR zBR lBR cBW zBW lBW
  replace HW := Lib.hid (HW.out.ext er)
  replace HE2 := Lib.hid (HE2.out.ext er)
  replace BX := Lib.hid (BX.out.ext er)
  replace BR := Lib.hid (BR.out.ext er)
  replace BM := Lib.hid (BM.out.ext er)
  replace BW := Lib.hid (BW.out.ext er)
  replace HSQ := Lib.hid (HSQ.out.ext er)
  clear er br0 br1 HR
  obtain ⟨MX, hMX⟩ : ∃ MX, MX = M5 := ⟨_, rfl⟩
  rw [← hMX] at HW
  clear hMX
  refine wpIn_loop_rounds 3 ?_
  rw [roundsIn_succ]
  have hsn := fun w => seq_nil w 45 (some ⟨w3.heap.size, 0, none⟩)
  obtain ⟨cBR, zBR⟩ := BR.out.reads
  have lBR := BR.out.lt
  obtain ⟨cBT, zBT⟩ := BT.out.reads
  have lBT := BT.out.lt
  gi_wp2_with fail
  clear hsn
  have bn0 := (Box.new w6 3 [.int .i64 0])
  have en : Ext w6 (w6.alloc (Obj.cells #[.int .i64 0] 3)) := ((Keeps.refl NoB w6).alloc _)
  have sn : (w6.alloc (Obj.cells #[.int .i64 0] 3)).heap.size = w6.heap.size + 1 := by simp
  generalize (w6.alloc (Obj.cells #[.int .i64 0] 3)) = w7 at bn0 en sn ⊢
  have Sn := Lib.hid sn
  clear sn
  have BC := Lib.hid bn0
  have h67 := en.size
  have hlc := bn0.lt
  clear cBR zBR lBR cBT zBT lBT
  replace HW : Hid (RefX w7 (fun k => MX k ∨ w6.heap.size ≤ k) _ _) := Lib.hid (HW.out.more en (fun k hk => hk))
  replace HE2 := Lib.hid (HE2.out.ext en)
  replace BX := Lib.hid (BX.out.ext en)
  replace BR := Lib.hid (BR.out.ext en)
  replace BM := Lib.hid (BM.out.ext en)
  replace BW := Lib.hid (BW.out.ext en)
  replace HSQ := Lib.hid (HSQ.out.ext en)
  replace BT := Lib.hid (BT.out.ext en)
  clear en bn0
  have hl6 := HSQ.out.lt
  refine wpIn_range_break rfl (by omega) (gf := 45) (lb := #[.pointer (some ⟨w3.heap.size, 0, none⟩)]) rfl trivial (enters_of Try.func45 (by kernel_rfl) rfl)
    (S := OneB w6.heap.size) (iter_net w7 w3.heap.size N.l HSQ.out (by unfold OneB; omega) (fun k h1 h2 => by have := h1.1; unfold OneB at h2; omega) HX6.out hle) (by rintro x v W0 W ⟨bv, rfl, _⟩; rfl)
    (fun k W => Keeps (OneB w6.heap.size) w7 W ∧ Box W w6.heap.size 3 [.int .i64 (k : Int)] ∧ (k : Int) < max 1 many)
    (fun k W => Keeps (OneB w6.heap.size) w7 W ∧ Box W w6.heap.size 3 [.int .i64 (k : Int)] ∧ (k : Int) = max 1 many) (fun k W h => h.1)
    (fun k W W' h hk => ⟨h.1.then hk (fun i hi h => by unfold OneB at h ⊢; omega), h.2.1.keeps hk (by unfold OneB; omega), h.2.2⟩)
    (fun k W W' h hk => ⟨h.1.then hk (fun i hi h => by unfold OneB at h ⊢; omega), h.2.1.keeps hk (by unfold OneB; omega), h.2.2⟩) ⟨Keeps.refl _ _, BC.out, by omega⟩ ?_ ?_
  · skip
    -- one round of the range: item k
    rintro k hk v W0 W - hE0 ⟨hkW, hb0, hck⟩ ⟨bv, rfl, hbv, hwr, hn0⟩ hlt0 hlt
    obtain ⟨av, cv, rfl⟩ := hbv.len
    have HKW := Lib.hid hkW
    have HB0 := Lib.hid hb0
    have HBV := Lib.hid hbv
    have HWR := Lib.hid hwr
    have h7W := hkW.size
    have h0W := hE0.size
    have hnbW := hb0.lt
    clear hkW hb0 hbv hwr hE0
    obtain ⟨y, hy⟩ : ∃ y, N.l[k] = y := ⟨_, rfl⟩
    rw [hy] at HBV HWR ⊢
    have HY := Lib.hid hy
    clear hy
    gi_wp2_with fail
    refine ⟨(Keeps.refl _ _).alloc _, fun W2 hW2 => ?_⟩
    have e2 : Keeps (OneB w6.heap.size) w7 W2 := (HKW.out.alloc _).then hW2 (fun i hi h => by unfold OneB at h; omega)
    have bx := (Box.new W 50 [.int .i64 (y.num : Int), .int .i64 y.src, .int .i64 y.dst, .slice av y.bytes.length cv]).keeps hW2 (by unfold OneB; omega)
    have b0 := (HB0.out.alloc (Obj.cells #[.int .i64 (y.num : Int), .int .i64 y.src, .int .i64 y.dst, .slice av y.bytes.length cv] 50)).keeps hW2 (by unfold OneB; omega)
    have bw := BW.out.keeps e2 (by unfold OneB; omega)
    have bt := BT.out.keeps e2 (by unfold OneB; omega)
    have bm := BM.out.keeps e2 (by unfold OneB; omega)
    have hbv2 := ((HBV.out.keeps ((Keeps.refl NoB W).alloc (Obj.cells #[.int .i64 (y.num : Int), .int .i64 y.src, .int .i64 y.dst, .slice av y.bytes.length cv] 50)) (fun _ _ => noB _)).keeps hW2 (fun g hg h2 => by have := hg.1; unfold OneB at h2; omega))
    have hwr2 : WrN W2 (.slice av y.bytes.length cv) :=
      WrN.keeps HBV.out HWR.out (((Keeps.refl (OneB (w7.heap.size + 1)) W).alloc (Obj.cells #[.int .i64 (y.num : Int), .int .i64 y.src, .int .i64 y.dst, .slice av y.bytes.length cv] 50)).then hW2 (fun i hi h => h)) (fun g hg => ⟨fun h2 => by have := hg.1; unfold OneB at h2; omega, hg.2⟩)
    obtain ⟨-, hat⟩ := (HW.out.go (M' := fun k => MX k ∨ w6.heap.size ≤ k) e2 (fun i hi h => by unfold OneB at h; exact .inr (by omega)) (fun k hk => .inl hk)).parAt
    obtain ⟨Ai, bl, ol, rfl, hc, hAb, hpar⟩ := hat k hk
    rw [HY.out] at hpar
    obtain ⟨i0, i1, i2, aq, cq, i3, i4⟩ := hpar.reads
    have HI := Lib.hid i4
    have HV2 := Lib.hid hbv2
    have HWR2 := Lib.hid hwr2
    have HK2 := Lib.hid e2
    have HBX := Lib.hid bx
    have hs2 := hW2.size
    simp only [World.size_alloc] at hs2
    have C0 := Lib.hid b0
    have BW' := Lib.hid bw
    have BT' := Lib.hid bt
    have BM' := Lib.hid bm
    obtain ⟨cHBX, zHBX⟩ := HBX.out.reads
    have lHBX := HBX.out.lt
    obtain ⟨cC0, zC0⟩ := C0.out.reads
    have lC0 := C0.out.lt
    obtain ⟨cBW', zBW'⟩ := BW'.out.reads
    have lBW' := BW'.out.lt
    have g0 : decide (N.l.length ≤ k) = false := by simp; omega
    have g1 : (k : Int) < (N.l.length : Int) := by omega
    have hk1000 : k ≤ 4096 := by omega
    clear hat hpar i4 hbv2 hwr2 bx b0 bw bt bm hW2 e2
    gi_wp2_with fail
    have hE0 : Keeps NoB W2 W2.drew := (Keeps.refl _ _).drew
    refine wpIn_region_plan [(3, 0), (0, 1), (3, 2), (0, 3), (0, 4), (0, 5), (3, 6), (0, 7), (3, 8), (3, 9), (0, 10), (3, 11)] [] [12, 13, 14] [12, 13, 14] (ClsE W2) (by kernel_rfl) (by rintro ⟨_, _, h⟩; exact h) (by kernel_rfl) (by kernel_rfl) (by kernel_rfl) rfl rfl (ClsE.of hE0) (fun _ _ _ d _ h => by cases d <;> exact h) ?_; simp only [planL, List.getElem?_toArray, List.getElem?_cons_succ, List.getElem?_cons_zero]
    refine plan_exact rfl (fun K hK => quiet_runX (v := ?_) ?_ (hK _ ?_)); rotate_left; (go_simp <;> with_reducible rfl); clear hK K; simp only [Act.put, List.setIfInBounds_toArray, List.set_cons_zero, List.set_cons_succ]
    refine plan_pure rfl (fun K hK => quiet_run (v := ?_) (fun W _ => ?_) (hK _ ?_)); rotate_left; (go_simp <;> with_reducible rfl); clear hK K; simp only [Act.put, List.setIfInBounds_toArray, List.set_cons_zero, List.set_cons_succ]
    refine plan_exact rfl (fun K hK => quiet_runX (v := ?_) ?_ (hK _ ?_)); rotate_left; (go_simp <;> with_reducible rfl); clear hK K; simp only [Act.put, List.setIfInBounds_toArray, List.set_cons_zero, List.set_cons_succ]
    refine plan_pure rfl (fun K hK => quiet_run (v := ?_) (fun W _ => ?_) (hK _ ?_)); rotate_left; (go_simp <;> with_reducible rfl); clear hK K; simp only [Act.put, List.setIfInBounds_toArray, List.set_cons_zero, List.set_cons_succ]
    refine plan_pure rfl (fun K hK => quiet_run (v := ?_) (fun W _ => ?_) (hK _ ?_)); rotate_left; (go_simp <;> with_reducible rfl); clear hK K; simp only [Act.put, List.setIfInBounds_toArray, List.set_cons_zero, List.set_cons_succ]
    refine plan_pure rfl (fun K hK => quiet_move' _ rfl (hK _ ?_)); clear hK K; simp only [Act.put, Act.eval, Array.getD_eq_getD_getElem?, List.getElem?_toArray, List.getElem?_cons_zero, List.getElem?_cons_succ, Option.getD_some, List.setIfInBounds_toArray, List.set_cons_zero, List.set_cons_succ]
    first
    | (refine plan_skip rfl ?_; simp only [Act.put, List.setIfInBounds_toArray, List.set_cons_zero, List.set_cons_succ])
    | (refine plan_exact rfl (fun K hK => quiet_runX (v := ?_) ?_ (hK _ ?_)); rotate_left; (go_simp <;> with_reducible rfl); clear hK K; simp only [Act.put, List.setIfInBounds_toArray, List.set_cons_zero, List.set_cons_succ])
    first
    | (refine plan_skip rfl ?_; simp only [Act.put, List.setIfInBounds_toArray, List.set_cons_zero, List.set_cons_succ])
    | (refine plan_pure rfl (fun K hK => quiet_run (v := ?_) (fun W _ => ?_) (hK _ ?_)); rotate_left; (go_simp <;> with_reducible rfl); clear hK K; simp only [Act.put, List.setIfInBounds_toArray, List.set_cons_zero, List.set_cons_succ])
    first
    | (refine plan_skip rfl ?_; simp only [Act.put, List.setIfInBounds_toArray, List.set_cons_zero, List.set_cons_succ])
    | (refine plan_exact rfl (fun K hK => quiet_runX (v := ?_) ?_ (hK _ ?_)); rotate_left; (go_simp <;> with_reducible rfl); clear hK K; simp only [Act.put, List.setIfInBounds_toArray, List.set_cons_zero, List.set_cons_succ])
    first
    | (refine plan_skip rfl ?_; simp only [Act.put, List.setIfInBounds_toArray, List.set_cons_zero, List.set_cons_succ])
    | (refine plan_exact rfl (fun K hK => quiet_runX (v := ?_) ?_ (hK _ ?_)); rotate_left; (go_simp <;> with_reducible rfl); clear hK K; simp only [Act.put, List.setIfInBounds_toArray, List.set_cons_zero, List.set_cons_succ])
    first
    | (refine plan_skip rfl ?_; simp only [Act.put, List.setIfInBounds_toArray, List.set_cons_zero, List.set_cons_succ])
    | (refine plan_pure rfl (fun K hK => quiet_run (v := ?_) (fun W _ => ?_) (hK _ ?_)); rotate_left; (go_simp <;> with_reducible rfl); clear hK K; simp only [Act.put, List.setIfInBounds_toArray, List.set_cons_zero, List.set_cons_succ])
    first
    | (refine plan_skip rfl ?_; simp only [Act.put, List.setIfInBounds_toArray, List.set_cons_zero, List.set_cons_succ])
    | (refine plan_exact rfl (fun K hK => quiet_runX (v := ?_) ?_ (hK _ ?_)); rotate_left; (go_simp <;> with_reducible rfl); clear hK K; simp only [Act.put, List.setIfInBounds_toArray, List.set_cons_zero, List.set_cons_succ])
    refine plan_nil ?_; simp only [tailL, List.filterMap_cons, List.filterMap_nil, List.getElem?_toArray, List.getElem?_cons_succ, List.getElem?_cons_zero]; change wpList _ _ _ (_ :: _ :: _ :: []) _ _
    go_wp2_with fail
    refine (same_par _ y y _ _ ⟨_, rfl, HV2.out.keeps hE0 (fun _ _ => noB _)⟩ ⟨_, rfl, HI.out.keeps hE0 (fun _ _ => noB _)⟩).mono ?_
    rintro e W3 ⟨rfl, hE3⟩
    rw [sameP_self]
    have hE03 : Ext W2 W3 := hE0.ext hE3
    have HE3' := Lib.hid hE03
    have h23' := hE03.size
    clear hE3 hE03 hE0
    go_wp2_with fail
    clear cHBX zHBX lHBX cC0 zC0 lC0 cBW' zBW' lBW'
    have HWR3 : Hid (WrN W3 (.slice av y.bytes.length cv)) := Lib.hid (WrN.keeps HV2.out HWR2.out HE3'.out (fun g hg => ⟨noB _, by have := hg.2; omega⟩))
    replace HBX := Lib.hid (HBX.out.ext HE3'.out)
    replace C0 := Lib.hid (C0.out.ext HE3'.out)
    replace BW' := Lib.hid (BW'.out.ext HE3'.out)
    replace BT' := Lib.hid (BT'.out.ext HE3'.out)
    replace BM' := Lib.hid (BM'.out.ext HE3'.out)
    replace HV2 := Lib.hid (HV2.out.ext HE3'.out)
    have HK3 := Lib.hid (HK2.out.ext HE3'.out)
    obtain ⟨cHBX, zHBX⟩ := HBX.out.reads
    have lHBX := HBX.out.lt
    obtain ⟨cC0, zC0⟩ := C0.out.reads
    have lC0 := C0.out.lt
    clear i0 i1 i2 i3
    have hyl := HX6.out _ (List.getElem_mem hk)
    rw [HY.out] at hyl
    gi_wp2_with fail
    gi_loopw [16] (fun i wr => ∃ (j : Nat) (l' : List UInt8), j ≤ y.bytes.length ∧ i = .int .i64 j ∧ Hid (l'.length = y.bytes.length ∧ Bytes wr (fun g => W0.heap.size ≤ g ∧ g < W.heap.size) (.slice av y.bytes.length cv) l' ∧ WrN wr (.slice av y.bytes.length cv)) ∧ Hid (Keeps (fun g => W0.heap.size ≤ g ∧ g < W.heap.size) W3 wr)) (fun i _ => y.bytes.length - (intOf i).toNat)
    case atStart => exact ⟨0, y.bytes, Nat.zero_le _, rfl, Lib.hid ⟨rfl, HV2.out, HWR3.out⟩, Lib.hid (Keeps.refl _ _)⟩
    case round =>
      obtain ⟨j, l', hj, rfl, hrow, hkp⟩ := hrel
      obtain ⟨hll, hby, hwy⟩ := hrow.out
      have bxr := HBX.out.keeps hkp.out (fun h2 => by have := h2.2; omega)
      have HBXr := Lib.hid bxr
      clear cHBX zHBX lHBX cC0 zC0 lC0
      obtain ⟨cHBXr, zHBXr⟩ := HBXr.out.reads
      have lHBXr := HBXr.out.lt
      have h3r := hkp.out.size
      clear bxr
      by_cases hlt : j < y.bytes.length
      · rcases hby with ⟨a', h1, h2⟩ | ⟨g, o, cap, h1, h2, h3, h4⟩
        · subst h2; simp at hll; omega
        · simp only [Value.slice.injEq] at h1
          obtain ⟨rfl, -, rfl⟩ := h1
          have hf0 := hwy g o y.bytes.length cv rfl j hlt
          have hjl : j < l'.length := by omega
          have hc0 := h4 j hjl
          have hgw : g < wr.heap.size := by have := h3.2; omega
          unfold ByteAt at hc0
          simp only [Nat.mul_one] at hc0
          have hbump := byte_wrap l'[j]
          obtain ⟨d, hd⟩ : ∃ d, l'[j] + 1 = d := ⟨_, rfl⟩
          rw [hd] at hbump
          have HN1 := Lib.hid (Bytes.bump (Or.inr ⟨g, o, cv, by rw [hll], by rw [hll]; omega, h3, h4⟩ : Bytes wr (fun g => W0.heap.size ≤ g ∧ g < W.heap.size) (.slice (some ⟨g, o, none⟩) y.bytes.length cv) l') j hjl d)
          have HN2 := Lib.hid (WrN.set hwy ⟨g, o + j, none⟩ (byV d))
          have HK1 := Lib.hid (hkp.out.setCell ⟨g, o + j, none⟩ (byV d) (.inl h3))
          have HLL := Lib.hid hll
          clear hrow hkp h4 hwy hd hll
          generalize l'[j] = cc at hc0 hbump
          unfold byV at hc0
          gi_wp2_with fail
          go_roundw
          case rel => exact ⟨j + 1, l'.set j d, by omega, by go_num, Lib.hid ⟨by rw [List.length_set]; exact HLL.out, HN1.out, HN2.out⟩, HK1⟩
          case measure => simp [intOf]; omega
      · have HKP := Lib.hid hkp.out
        have HK4 := Lib.hid (HK3.out.then hkp.out (fun i hi h => by have := h.1; omega))
        have hnb : w6.heap.size < W0.heap.size := by omega
        replace C0 := Lib.hid (C0.out.keeps HKP.out (by first | exact noB _ | (unfold OneB; omega) | (intro hk; simp at hk; omega) | omega))
        replace BT' := Lib.hid (BT'.out.keeps HKP.out (by first | exact noB _ | (unfold OneB; omega) | (intro hk; simp at hk; omega) | omega))
        replace BM' := Lib.hid (BM'.out.keeps HKP.out (by first | exact noB _ | (unfold OneB; omega) | (intro hk; simp at hk; omega) | omega))
        clear hrow hkp hby hwy hll
        obtain ⟨cC0, zC0⟩ := C0.out.reads
        have lC0 := C0.out.lt
        obtain ⟨cBT', zBT'⟩ := BT'.out.reads
        have lBT' := BT'.out.lt
        obtain ⟨cBM', zBM'⟩ := BM'.out.reads
        have lBM' := BM'.out.lt
        have hke : Keeps (RB (OneB w6.heap.size) w7.heap.size) W2 wr := (Ext.keeps HE3'.out).then HKP.out (fun i hi h => .inr (by have := h.1; omega))
        have HKE := Lib.hid hke
        clear hke
        by_cases hbr : many ≤ (k : Int) + 1
        · gi_wp2_with fail
          refine ⟨HKE.out.setCell _ _ (.inl (.inl ⟨by show w6.heap.size < w7.heap.size; omega, rfl⟩)), rfl, HK4.out.setCell _ _ (.inl rfl), ?_, ?_⟩
          · have := C0.out.set 0 (.int .i64 ((k : Int) + 1))
            simpa using this
          · omega
        · gi_wp2_with fail
          refine ⟨HKE.out.setCell _ _ (.inl (.inl ⟨by show w6.heap.size < w7.heap.size; omega, rfl⟩)), HK4.out.setCell _ _ (.inl rfl), ?_, ?_⟩
          · have := C0.out.set 0 (.int .i64 ((k : Int) + 1))
            simpa using this
          · omega
  · intro W hW hm
    obtain ⟨N0, hkW, hb0, hN0⟩ : ∃ N0 : Nat, Keeps (OneB w6.heap.size) w7 W ∧ Box W w6.heap.size 3 [.int .i64 (N0 : Int)] ∧ (N0 : Int) = min (N.l.length : Int) (max 1 many) := by
      rcases hW with ⟨h1, h2, h3⟩ | ⟨k, hk, h1, h2, h3⟩
      · exact ⟨_, h1, h2, by omega⟩
      · exact ⟨_, h1, h2, by omega⟩
    obtain ⟨MM, hM⟩ : ∃ MM, max 1 many = MM := ⟨_, rfl⟩
    rw [hM] at hN0
    have hmx : (if many > 1 then many else 1) = MM := by rw [← hM]; split <;> omega
    have hmn : (if MM < (N.l.length : Int) then MM else (N.l.length : Int)) = (N0 : Int) := by rw [hN0]; split <;> omega
    have HKW := Lib.hid hkW
    have HM := Lib.hid hm
    have C0 := Lib.hid hb0
    replace BT := Lib.hid (BT.out.keeps HKW.out (by first | exact noB _ | (unfold OneB; omega) | (intro hk; simp at hk; omega) | omega))
    replace BM := Lib.hid (BM.out.keeps HKW.out (by first | exact noB _ | (unfold OneB; omega) | (intro hk; simp at hk; omega) | omega))
    replace BW := Lib.hid (BW.out.keeps HKW.out (by first | exact noB _ | (unfold OneB; omega) | (intro hk; simp at hk; omega) | omega))
    replace BR := Lib.hid (BR.out.keeps HKW.out (by first | exact noB _ | (unfold OneB; omega) | (intro hk; simp at hk; omega) | omega))
    replace HW := Lib.hid (HW.out.go (M' := fun k => MX k ∨ w6.heap.size ≤ k) hkW (fun k hk h => .inr (by unfold OneB at h; omega)) (fun k hk => .inl hk))
    replace HSQ := Lib.hid (HSQ.out.keeps hkW (by unfold OneB; omega) (fun k hk h => by unfold OneB at h; have := hk.1; omega))
    replace HE2 : Hid (Ext w W) := Lib.hid (HE2.out.then hkW (fun i hi h => by unfold OneB at h; omega))
    have h7W := hkW.size
    clear hkW hm hb0 hN0 hM hW
    obtain ⟨cC0, zC0⟩ := C0.out.reads
    have lC0 := C0.out.lt
    obtain ⟨cBT, zBT⟩ := BT.out.reads
    have lBT := BT.out.lt
    obtain ⟨cBM, zBM⟩ := BM.out.reads
    have lBM := BM.out.lt
    obtain ⟨cBW, zBW⟩ := BW.out.reads
    have lBW := BW.out.lt
    obtain ⟨cBR, zBR⟩ := BR.out.reads
    have lBR := BR.out.lt
    gi_wp2_with fail
    have bt0 := (Box.new W 3 [.int .i64 1])
    have et : Ext W (W.alloc (Obj.cells #[.int .i64 1] 3)) := ((Keeps.refl NoB W).alloc _)
    have st : (W.alloc (Obj.cells #[.int .i64 1] 3)).heap.size = W.heap.size + 1 := by simp
    generalize (W.alloc (Obj.cells #[.int .i64 1] 3)) = w8 at bt0 et st ⊢
    have St := Lib.hid st
    clear st
    clear BT
    have BT := Lib.hid bt0
    have h8l := bt0.lt
    clear cC0 zC0 lC0 cBT zBT lBT cBM zBM lBM cBW zBW lBW cBR zBR lBR
    have HM8 := Lib.hid (HM.out.keeps et (noB _))
    replace HW := Lib.hid (HW.out.ext et)
    replace HSQ := Lib.hid (HSQ.out.ext et)
    replace HE2 := Lib.hid (HE2.out.ext et)
    replace BM := Lib.hid (BM.out.ext et)
    replace BW := Lib.hid (BW.out.ext et)
    replace BR := Lib.hid (BR.out.ext et)
    clear et bt0 hmx hmn C0
    rw [roundsIn_succ]
    have hsn := fun w => seq_nil w 45 (some ⟨w3.heap.size, 0, none⟩)
    obtain ⟨cBR, zBR⟩ := BR.out.reads
    have lBR := BR.out.lt
    obtain ⟨cBT, zBT⟩ := BT.out.reads
    have lBT := BT.out.lt
    gi_wp2_with fail
    clear hsn
    have bn0 := (Box.new w8 3 [.int .i64 0])
    have en : Ext w8 (w8.alloc (Obj.cells #[.int .i64 0] 3)) := ((Keeps.refl NoB w8).alloc _)
    have sn : (w8.alloc (Obj.cells #[.int .i64 0] 3)).heap.size = w8.heap.size + 1 := by simp
    generalize (w8.alloc (Obj.cells #[.int .i64 0] 3)) = w9 at bn0 en sn ⊢
    have Sn := Lib.hid sn
    clear sn
    have BC := Lib.hid bn0
    have h89 := en.size
    have hlc9 := bn0.lt
    clear cBR zBR lBR cBT zBT lBT
    have HM9 := Lib.hid (HM8.out.keeps en (noB _))
    replace HW := Lib.hid (HW.out.ext en)
    replace HSQ := Lib.hid (HSQ.out.ext en)
    replace HE2 := Lib.hid (HE2.out.ext en)
    replace BM := Lib.hid (BM.out.ext en)
    replace BW := Lib.hid (BW.out.ext en)
    replace BR := Lib.hid (BR.out.ext en)
    replace BT := Lib.hid (BT.out.ext en)
    clear en bn0
    have hl6' := HSQ.out.lt
    refine wpIn_range_break rfl (by omega) (gf := 45) (lb := #[.pointer (some ⟨w3.heap.size, 0, none⟩)]) rfl trivial (enters_of Try.func45 (by kernel_rfl) rfl)
      (S := OneB w8.heap.size) (iter_net w9 w3.heap.size N.l HSQ.out (by unfold OneB; omega) (fun k h1 h2 => by have := h1.1; unfold OneB at h2; omega) HX6.out hle) (by rintro x v W0 W ⟨bv, rfl, _⟩; rfl)
      (fun k W => Keeps (OneB w8.heap.size) w9 W ∧ Box W w8.heap.size 3 [.int .i64 (k : Int)])
      (fun k W => False) (fun k W h => h.1)
      (fun k W W' h hk => ⟨h.1.then hk (fun i hi h => by unfold OneB at h ⊢; omega), h.2.keeps hk (by unfold OneB; omega)⟩)
      (fun k W W' h hk => h) ⟨Keeps.refl _ _, BC.out⟩ ?_ ?_
    · skip
      -- one round of the range: item k
      rintro k hk v W0 W - hE0 ⟨hkW, hb0⟩ ⟨bv, rfl, hbv, hwr, hn0⟩ hlt0 hlt
      obtain ⟨av, cv, rfl⟩ := hbv.len
      have HKW := Lib.hid hkW
      have HB0 := Lib.hid hb0
      have HBV := Lib.hid hbv
      have HWR := Lib.hid hwr
      have h7W := hkW.size
      have h0W := hE0.size
      have hnbW := hb0.lt
      clear hkW hb0 hbv hwr hE0
      obtain ⟨y, hy⟩ : ∃ y, N.l[k] = y := ⟨_, rfl⟩
      rw [hy] at HBV HWR ⊢
      have HY := Lib.hid hy
      clear hy
      gi_wp2_with fail
      refine ⟨(Keeps.refl _ _).alloc _, fun W2 hW2 => ?_⟩
      have e2 : Keeps (OneB w8.heap.size) w9 W2 := (HKW.out.alloc _).then hW2 (fun i hi h => by unfold OneB at h; omega)
      have bx := (Box.new W 50 [.int .i64 (y.num : Int), .int .i64 y.src, .int .i64 y.dst, .slice av y.bytes.length cv]).keeps hW2 (by unfold OneB; omega)
      have b0 := (HB0.out.alloc (Obj.cells #[.int .i64 (y.num : Int), .int .i64 y.src, .int .i64 y.dst, .slice av y.bytes.length cv] 50)).keeps hW2 (by unfold OneB; omega)
      have bw := BW.out.keeps e2 (by unfold OneB; omega)
      have bt := BT.out.keeps e2 (by unfold OneB; omega)
      have bm := BM.out.keeps e2 (by unfold OneB; omega)
      have hbv2 := ((HBV.out.keeps ((Keeps.refl NoB W).alloc (Obj.cells #[.int .i64 (y.num : Int), .int .i64 y.src, .int .i64 y.dst, .slice av y.bytes.length cv] 50)) (fun _ _ => noB _)).keeps hW2 (fun g hg h2 => by have := hg.1; unfold OneB at h2; omega))
      have hwr2 : WrN W2 (.slice av y.bytes.length cv) :=
        WrN.keeps HBV.out HWR.out (((Keeps.refl (OneB (w9.heap.size + 1)) W).alloc (Obj.cells #[.int .i64 (y.num : Int), .int .i64 y.src, .int .i64 y.dst, .slice av y.bytes.length cv] 50)).then hW2 (fun i hi h => h)) (fun g hg => ⟨fun h2 => by have := hg.1; unfold OneB at h2; omega, hg.2⟩)
      obtain ⟨-, hat⟩ := (HW.out.go (M' := fun k => MX k ∨ w6.heap.size ≤ k) e2 (fun i hi h => by unfold OneB at h; exact .inr (by omega)) (fun k hk => .inl hk)).parAt
      obtain ⟨Ai, bl, ol, rfl, hc, hAb, hpar⟩ := hat k hk
      rw [HY.out] at hpar
      obtain ⟨i0, i1, i2, aq, cq, i3, i4⟩ := hpar.reads
      have HI := Lib.hid i4
      have HV2 := Lib.hid hbv2
      have HWR2 := Lib.hid hwr2
      have HK2 := Lib.hid e2
      have HBX := Lib.hid bx
      have hs2 := hW2.size
      simp only [World.size_alloc] at hs2
      have C0 := Lib.hid b0
      have BW' := Lib.hid bw
      have BT' := Lib.hid bt
      have BM' := Lib.hid bm
      obtain ⟨cHBX, zHBX⟩ := HBX.out.reads
      have lHBX := HBX.out.lt
      obtain ⟨cC0, zC0⟩ := C0.out.reads
      have lC0 := C0.out.lt
      obtain ⟨cBW', zBW'⟩ := BW'.out.reads
      have lBW' := BW'.out.lt
      have g0 : decide (N.l.length ≤ k) = false := by simp; omega
      have g1 : (k : Int) < (N.l.length : Int) := by omega
      have hk1000 : k ≤ 4096 := by omega
      clear hat hpar i4 hbv2 hwr2 bx b0 bw bt bm hW2 e2
      gi_wp2_with fail
      have hE0 : Keeps NoB W2 W2.drew := (Keeps.refl _ _).drew
      refine wpIn_region_plan [(3, 0), (0, 1), (3, 2), (0, 3), (0, 4), (0, 5), (3, 6), (0, 7), (3, 8), (3, 9), (0, 10), (3, 11)] [] [12, 13, 14] [12, 13, 14] (ClsE W2) (by kernel_rfl) (by rintro ⟨_, _, h⟩; exact h) (by kernel_rfl) (by kernel_rfl) (by kernel_rfl) rfl rfl (ClsE.of hE0) (fun _ _ _ d _ h => by cases d <;> exact h) ?_; simp only [planL, List.getElem?_toArray, List.getElem?_cons_succ, List.getElem?_cons_zero]
      refine plan_exact rfl (fun K hK => quiet_runX (v := ?_) ?_ (hK _ ?_)); rotate_left; (go_simp <;> with_reducible rfl); clear hK K; simp only [Act.put, List.setIfInBounds_toArray, List.set_cons_zero, List.set_cons_succ]
      refine plan_pure rfl (fun K hK => quiet_run (v := ?_) (fun W _ => ?_) (hK _ ?_)); rotate_left; (go_simp <;> with_reducible rfl); clear hK K; simp only [Act.put, List.setIfInBounds_toArray, List.set_cons_zero, List.set_cons_succ]
      refine plan_exact rfl (fun K hK => quiet_runX (v := ?_) ?_ (hK _ ?_)); rotate_left; (go_simp <;> with_reducible rfl); clear hK K; simp only [Act.put, List.setIfInBounds_toArray, List.set_cons_zero, List.set_cons_succ]
      refine plan_pure rfl (fun K hK => quiet_run (v := ?_) (fun W _ => ?_) (hK _ ?_)); rotate_left; (go_simp <;> with_reducible rfl); clear hK K; simp only [Act.put, List.setIfInBounds_toArray, List.set_cons_zero, List.set_cons_succ]
      refine plan_pure rfl (fun K hK => quiet_run (v := ?_) (fun W _ => ?_) (hK _ ?_)); rotate_left; (go_simp <;> with_reducible rfl); clear hK K; simp only [Act.put, List.setIfInBounds_toArray, List.set_cons_zero, List.set_cons_succ]
      refine plan_pure rfl (fun K hK => quiet_move' _ rfl (hK _ ?_)); clear hK K; simp only [Act.put, Act.eval, Array.getD_eq_getD_getElem?, List.getElem?_toArray, List.getElem?_cons_zero, List.getElem?_cons_succ, Option.getD_some, List.setIfInBounds_toArray, List.set_cons_zero, List.set_cons_succ]
      first
      | (refine plan_skip rfl ?_; simp only [Act.put, List.setIfInBounds_toArray, List.set_cons_zero, List.set_cons_succ])
      | (refine plan_exact rfl (fun K hK => quiet_runX (v := ?_) ?_ (hK _ ?_)); rotate_left; (go_simp <;> with_reducible rfl); clear hK K; simp only [Act.put, List.setIfInBounds_toArray, List.set_cons_zero, List.set_cons_succ])
      first
      | (refine plan_skip rfl ?_; simp only [Act.put, List.setIfInBounds_toArray, List.set_cons_zero, List.set_cons_succ])
      | (refine plan_pure rfl (fun K hK => quiet_run (v := ?_) (fun W _ => ?_) (hK _ ?_)); rotate_left; (go_simp <;> with_reducible rfl); clear hK K; simp only [Act.put, List.setIfInBounds_toArray, List.set_cons_zero, List.set_cons_succ])
      first
      | (refine plan_skip rfl ?_; simp only [Act.put, List.setIfInBounds_toArray, List.set_cons_zero, List.set_cons_succ])
      | (refine plan_exact rfl (fun K hK => quiet_runX (v := ?_) ?_ (hK _ ?_)); rotate_left; (go_simp <;> with_reducible rfl); clear hK K; simp only [Act.put, List.setIfInBounds_toArray, List.set_cons_zero, List.set_cons_succ])
      first
      | (refine plan_skip rfl ?_; simp only [Act.put, List.setIfInBounds_toArray, List.set_cons_zero, List.set_cons_succ])
      | (refine plan_exact rfl (fun K hK => quiet_runX (v := ?_) ?_ (hK _ ?_)); rotate_left; (go_simp <;> with_reducible rfl); clear hK K; simp only [Act.put, List.setIfInBounds_toArray, List.set_cons_zero, List.set_cons_succ])
      first
      | (refine plan_skip rfl ?_; simp only [Act.put, List.setIfInBounds_toArray, List.set_cons_zero, List.set_cons_succ])
      | (refine plan_pure rfl (fun K hK => quiet_run (v := ?_) (fun W _ => ?_) (hK _ ?_)); rotate_left; (go_simp <;> with_reducible rfl); clear hK K; simp only [Act.put, List.setIfInBounds_toArray, List.set_cons_zero, List.set_cons_succ])
      first
      | (refine plan_skip rfl ?_; simp only [Act.put, List.setIfInBounds_toArray, List.set_cons_zero, List.set_cons_succ])
      | (refine plan_exact rfl (fun K hK => quiet_runX (v := ?_) ?_ (hK _ ?_)); rotate_left; (go_simp <;> with_reducible rfl); clear hK K; simp only [Act.put, List.setIfInBounds_toArray, List.set_cons_zero, List.set_cons_succ])
      refine plan_nil ?_; simp only [tailL, List.filterMap_cons, List.filterMap_nil, List.getElem?_toArray, List.getElem?_cons_succ, List.getElem?_cons_zero]; change wpList _ _ _ (_ :: _ :: _ :: []) _ _
      go_wp2_with fail
      refine (same_par _ y y _ _ ⟨_, rfl, HV2.out.keeps hE0 (fun _ _ => noB _)⟩ ⟨_, rfl, HI.out.keeps hE0 (fun _ _ => noB _)⟩).mono ?_
      rintro e W3 ⟨rfl, hE3⟩
      rw [sameP_self]
      have hE03 : Ext W2 W3 := hE0.ext hE3
      have HE3' := Lib.hid hE03
      have h23' := hE03.size
      clear hE3 hE03 hE0
      go_wp2_with fail
      clear cHBX zHBX lHBX cC0 zC0 lC0 cBW' zBW' lBW'
      have HWR3 : Hid (WrN W3 (.slice av y.bytes.length cv)) := Lib.hid (WrN.keeps HV2.out HWR2.out HE3'.out (fun g hg => ⟨noB _, by have := hg.2; omega⟩))
      replace HBX := Lib.hid (HBX.out.ext HE3'.out)
      replace C0 := Lib.hid (C0.out.ext HE3'.out)
      replace BW' := Lib.hid (BW'.out.ext HE3'.out)
      replace BT' := Lib.hid (BT'.out.ext HE3'.out)
      replace BM' := Lib.hid (BM'.out.ext HE3'.out)
      replace HV2 := Lib.hid (HV2.out.ext HE3'.out)
      have HK3 := Lib.hid (HK2.out.ext HE3'.out)
      obtain ⟨cHBX, zHBX⟩ := HBX.out.reads
      have lHBX := HBX.out.lt
      obtain ⟨cC0, zC0⟩ := C0.out.reads
      have lC0 := C0.out.lt
      clear i0 i1 i2 i3
      have hyl := HX6.out _ (List.getElem_mem hk)
      rw [HY.out] at hyl
      gi_wp2_with fail
      gi_loopw [16] (fun i wr => ∃ (j : Nat) (l' : List UInt8), j ≤ y.bytes.length ∧ i = .int .i64 j ∧ Hid (l'.length = y.bytes.length ∧ Bytes wr (fun g => W0.heap.size ≤ g ∧ g < W.heap.size) (.slice av y.bytes.length cv) l' ∧ WrN wr (.slice av y.bytes.length cv)) ∧ Hid (Keeps (fun g => W0.heap.size ≤ g ∧ g < W.heap.size) W3 wr)) (fun i _ => y.bytes.length - (intOf i).toNat)
      case atStart => exact ⟨0, y.bytes, Nat.zero_le _, rfl, Lib.hid ⟨rfl, HV2.out, HWR3.out⟩, Lib.hid (Keeps.refl _ _)⟩
      case round =>
        obtain ⟨j, l', hj, rfl, hrow, hkp⟩ := hrel
        obtain ⟨hll, hby, hwy⟩ := hrow.out
        have bxr := HBX.out.keeps hkp.out (fun h2 => by have := h2.2; omega)
        have HBXr := Lib.hid bxr
        clear cHBX zHBX lHBX cC0 zC0 lC0
        obtain ⟨cHBXr, zHBXr⟩ := HBXr.out.reads
        have lHBXr := HBXr.out.lt
        have h3r := hkp.out.size
        clear bxr
        by_cases hlt : j < y.bytes.length
        · rcases hby with ⟨a', h1, h2⟩ | ⟨g, o, cap, h1, h2, h3, h4⟩
          · subst h2; simp at hll; omega
          · simp only [Value.slice.injEq] at h1
            obtain ⟨rfl, -, rfl⟩ := h1
            have hf0 := hwy g o y.bytes.length cv rfl j hlt
            have hjl : j < l'.length := by omega
            have hc0 := h4 j hjl
            have hgw : g < wr.heap.size := by have := h3.2; omega
            unfold ByteAt at hc0
            simp only [Nat.mul_one] at hc0
            have hbump := byte_wrap l'[j]
            obtain ⟨d, hd⟩ : ∃ d, l'[j] + 1 = d := ⟨_, rfl⟩
            rw [hd] at hbump
            have HN1 := Lib.hid (Bytes.bump (Or.inr ⟨g, o, cv, by rw [hll], by rw [hll]; omega, h3, h4⟩ : Bytes wr (fun g => W0.heap.size ≤ g ∧ g < W.heap.size) (.slice (some ⟨g, o, none⟩) y.bytes.length cv) l') j hjl d)
            have HN2 := Lib.hid (WrN.set hwy ⟨g, o + j, none⟩ (byV d))
            have HK1 := Lib.hid (hkp.out.setCell ⟨g, o + j, none⟩ (byV d) (.inl h3))
            have HLL := Lib.hid hll
            clear hrow hkp h4 hwy hd hll
            generalize l'[j] = cc at hc0 hbump
            unfold byV at hc0
            gi_wp2_with fail
            go_roundw
            case rel => exact ⟨j + 1, l'.set j d, by omega, by go_num, Lib.hid ⟨by rw [List.length_set]; exact HLL.out, HN1.out, HN2.out⟩, HK1⟩
            case measure => simp [intOf]; omega
        · have HKP := Lib.hid hkp.out
          have HK4 := Lib.hid (HK3.out.then hkp.out (fun i hi h => by have := h.1; omega))
          have hnb : w8.heap.size < W0.heap.size := by omega
          replace C0 := Lib.hid (C0.out.keeps HKP.out (by first | exact noB _ | (unfold OneB; omega) | (intro hk; simp at hk; omega) | omega))
          replace BT' := Lib.hid (BT'.out.keeps HKP.out (by first | exact noB _ | (unfold OneB; omega) | (intro hk; simp at hk; omega) | omega))
          replace BM' := Lib.hid (BM'.out.keeps HKP.out (by first | exact noB _ | (unfold OneB; omega) | (intro hk; simp at hk; omega) | omega))
          clear hrow hkp hby hwy hll
          obtain ⟨cC0, zC0⟩ := C0.out.reads
          have lC0 := C0.out.lt
          obtain ⟨cBT', zBT'⟩ := BT'.out.reads
          have lBT' := BT'.out.lt
          obtain ⟨cBM', zBM'⟩ := BM'.out.reads
          have lBM' := BM'.out.lt
          have hke : Keeps (RB (OneB w8.heap.size) w9.heap.size) W2 wr := (Ext.keeps HE3'.out).then HKP.out (fun i hi h => .inr (by have := h.1; omega))
          have HKE := Lib.hid hke
          clear hke
          gi_wp2_with fail
          refine ⟨HKE.out.setCell _ _ (.inl (.inl ⟨by show w8.heap.size < w9.heap.size; omega, rfl⟩)), HK4.out.setCell _ _ (.inl rfl), ?_⟩
          have := C0.out.set 0 (.int .i64 ((k : Int) + 1))
          simpa using this
    · intro V hV hm
      obtain ⟨hkW, hb0⟩ : Keeps (OneB w8.heap.size) w9 V ∧ Box V w8.heap.size 3 [.int .i64 (N.l.length : Int)] := by
        rcases hV with h | ⟨k, hk, h⟩
        · exact h
        · exact h.elim
      have HKW2 := Lib.hid hkW
      have HM2 := Lib.hid hm
      have HM1 := Lib.hid (HM9.out.keeps hkW (by unfold OneB; have := HM.out.lt; omega))
      have C0 := Lib.hid hb0
      replace BT := Lib.hid (BT.out.keeps HKW2.out (by first | exact noB _ | (unfold OneB; omega) | (intro hk; simp at hk; omega) | omega))
      replace BM := Lib.hid (BM.out.keeps HKW2.out (by first | exact noB _ | (unfold OneB; omega) | (intro hk; simp at hk; omega) | omega))
      replace BW := Lib.hid (BW.out.keeps HKW2.out (by first | exact noB _ | (unfold OneB; omega) | (intro hk; simp at hk; omega) | omega))
      replace BR := Lib.hid (BR.out.keeps HKW2.out (by first | exact noB _ | (unfold OneB; omega) | (intro hk; simp at hk; omega) | omega))
      replace HE2 : Hid (Ext w V) := Lib.hid (HE2.out.then hkW (fun i hi h => by unfold OneB at h; omega))
      have h9V := hkW.size
      clear hkW hm hb0 hV
      obtain ⟨cC0, zC0⟩ := C0.out.reads
      have lC0 := C0.out.lt
      obtain ⟨cBT, zBT⟩ := BT.out.reads
      have lBT := BT.out.lt
      obtain ⟨cBM, zBM⟩ := BM.out.reads
      have lBM := BM.out.lt
      obtain ⟨cBW, zBW⟩ := BW.out.reads
      have lBW := BW.out.lt
      obtain ⟨cBR, zBR⟩ := BR.out.reads
      have lBR := BR.out.lt
      gi_wp2_with fail
      have bu0 := (Box.new V 3 [.int .i64 2])
      have eu : Ext V (V.alloc (Obj.cells #[.int .i64 2] 3)) := ((Keeps.refl NoB V).alloc _)
      have su : (V.alloc (Obj.cells #[.int .i64 2] 3)).heap.size = V.heap.size + 1 := by simp
      generalize (V.alloc (Obj.cells #[.int .i64 2] 3)) = w10 at bu0 eu su ⊢
      have Su := Lib.hid su
      clear su
      clear BT
      have BT := Lib.hid bu0
      clear cC0 zC0 lC0 cBT zBT lBT cBM zBM lBM cBW zBW lBW cBR zBR lBR
      replace HE2 := Lib.hid (HE2.out.ext eu)
      replace BR := Lib.hid (BR.out.ext eu)
      replace HM1 := Lib.hid (HM1.out.ext eu)
      replace HM2 := Lib.hid (HM2.out.ext eu)
      clear eu bu0 C0
      rw [roundsIn_succ]
      obtain ⟨cBT, zBT⟩ := BT.out.reads
      have lBT := BT.out.lt
      obtain ⟨cBR, zBR⟩ := BR.out.reads
      have lBR := BR.out.lt
      gi_wp2_with fail
      clear cBT zBT lBT
      refine ⟨trivial, callsIn_wide.2 ((works_any _).mono ?_)⟩
      rintro e w12 ⟨rfl, hE⟩
      clear cBR zBR lBR
      replace HE2 := Lib.hid (HE2.out.ext hE)
      replace BR := Lib.hid (BR.out.ext hE)
      replace HM1 := Lib.hid (HM1.out.ext hE)
      replace HM2 := Lib.hid (HM2.out.ext hE)
      clear hE
      obtain ⟨cBR, zBR⟩ := BR.out.reads
      have lBR := BR.out.lt
      have hm1 := HM1.out.lt
      have hm2 := HM2.out.lt
      have h79 : w7.heap.size < w9.heap.size := by have := HM9.out.lt; omega
      have hwz : w.heap.size + 1 + 1 < w7.heap.size := by omega
      gi_wp2_with fail
      refine leaves_marks [w9.heap.size, w7.heap.size] _ (by simp; omega) ?_ ?_
      · intro D hD
        simp only [List.mem_cons, List.not_mem_nil, or_false] at hD
        rcases hD with rfl | rfl
        · exact HM2.out.keeps (S := OneB (w.heap.size + 1 + 1)) ((Keeps.refl _ _).setOne _ _) (by unfold OneB; omega)
        · exact HM1.out.keeps (S := OneB (w.heap.size + 1 + 1)) ((Keeps.refl _ _).setOne _ _) (by unfold OneB; omega)
      · intro w' hk
        have q0 : Box w' (w.heap.size + 1 + 1) 4 [.bool true] := Box.keeps (w := _) (BR.out.set 0 (.bool true)) hk (by simp; omega)
        refine ⟨.bool true, by simp [results, Try.results4, go_sem, q0.reads.1], rfl, ?_⟩
        exact (HE2.out.then ((Keeps.refl (OneB (w.heap.size + 1 + 1)) w12).setOne 0 (.bool true)) (fun i hi h => by unfold OneB at h; omega)).then hk (fun i hi h => by simp at h; omega)
end Go.Proofs.Ytdiogipdcpiffaa
