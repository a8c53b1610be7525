/- The walk of NetCopies: its function returns true, and of what was there nothing turns. Conditions: its arguments lie as 'Acts' and 'ActV' say. -/
import Derived.Test.YtdiogipdcpiffaaNCopy
set_option linter.unusedVariables false
set_option maxHeartbeats 400000
set_option maxRecDepth 10000
namespace Go.Proofs.Ytdiogipdcpiffaa
open Go.RowKit

theorem acts_two {A : Nat → Prop} {w : World} {b : Nat} {t : TypeId} {x y : Ac} {vx vy : Value} (hb : Box w b t [.int .i64 x.what, .int .i64 x.src, .int .i64 x.dst, .int .i64 x.pick, vx, .bool x.is, .int .i64 y.what, .int .i64 y.src, .int .i64 y.dst, .int .i64 y.pick, vy, .bool y.is])
    (h1 : Bytes w A vx x.bytes) (h2 : Bytes w A vy y.bytes) (hA : A b) : Acts w A (.slice (some ⟨b, 0, none⟩) 2 2) [x, y] := by
  have hr := hb.reads.1
  refine .inr ⟨b, 0, 2, rfl, Nat.le_refl _, hA, fun i hi => ?_⟩
  match i, hi with
  | 0, _ => exact ⟨[.int .i64 x.what, .int .i64 x.src, .int .i64 x.dst, .int .i64 x.pick, vx, .bool x.is], ⟨vx, rfl, h1⟩, rfl, fun j hj => by
      rw [Nat.zero_mul, Nat.zero_add, hr j]
      match j, hj with
      | 0, _ => rfl
      | 1, _ => rfl
      | 2, _ => rfl
      | 3, _ => rfl
      | 4, _ => rfl
      | 5, _ => rfl⟩
  | 1, _ => exact ⟨[.int .i64 y.what, .int .i64 y.src, .int .i64 y.dst, .int .i64 y.pick, vy, .bool y.is], ⟨vy, rfl, h2⟩, rfl, fun j hj => by
      rw [Nat.one_mul, Nat.zero_add, hr (6 + j)]
      match j, hj with
      | 0, _ => rfl
      | 1, _ => rfl
      | 2, _ => rfl
      | 3, _ => rfl
      | 4, _ => rfl
      | 5, _ => rfl⟩
theorem Bool.eq_of_iff {a b : Bool} {p : Prop} (h1 : a = true ↔ p) (h2 : b = true ↔ p) : a = b := by
  cases a <;> cases b <;> simp_all
theorem NA.act_most (N : NA) (x : Ac) : (N.act x).most = N.most := by
  unfold NA.act NA.putR NA.takeR NA.dropR NA.downR
  repeat (first | rfl | split)
theorem NA.acts_most (N : NA) (l : List Ac) : (N.acts l).most = N.most := by
  unfold NA.acts
  induction l generalizing N with
  | nil => rfl
  | cons x l ih => rw [List.foldl_cons, ih, NA.act_most]
theorem NetX.nodup {w : World} {F M : Nat → Prop} {b : Nat} {N : NA} (h : NetX w F M b N) : N.downs.Nodup := by
  obtain ⟨A, m, v, cs, h⟩ := h
  obtain ⟨es, clock, h1, h2, h3, h4⟩ := h.dn
  exact set_split h3 h2.2.2
theorem sub_of_len : ∀ {D1 D2 : List (Int × Int)} (hn : D1.Nodup) (hl : D1.length = D2.length) (hs : ∀ p ∈ D1, p ∈ D2), ∀ p ∈ D2, p ∈ D1
  | [], D2, _, hl, _, p, hp => by
    cases D2 with
    | nil => exact hp
    | cons _ _ => simp at hl
  | a :: r, D2, hn, hl, hs, p, hp => by
    have ha := hs a (by simp)
    have hn' := List.nodup_cons.1 hn
    by_cases hpa : p = a
    · subst hpa; simp
    · refine List.mem_cons_of_mem _ (sub_of_len (D1 := r) (D2 := D2.erase a) hn'.2 ?_ (fun q hq => ?_) p ((List.mem_erase_of_ne hpa).2 hp))
      · rw [List.length_erase_of_mem ha]; simp at hl; omega
      · exact (List.mem_erase_of_ne (fun e => by subst e; exact hn'.1 hq)).2 (hs q (by simp [hq]))
theorem sameD_symm {D1 D2 : List (Int × Int)} (h1 : D1.Nodup) (h : sameD D1 D2 = true) : sameD D2 D1 = true := by
  unfold sameD at h ⊢
  rw [Bool.and_eq_true, List.all_eq_true] at h ⊢
  have hl := of_decide_eq_true h.1
  refine ⟨decide_eq_true hl.symm, fun p hp => decide_eq_true ?_⟩
  exact sub_of_len h1 hl (fun p hp => of_decide_eq_true (h.2 p hp)) p hp
theorem Alike.symm {N N' : NA} (h1 : N.downs.Nodup) (h : Alike N N') : Alike N' N := ⟨h.1.symm, h.2.1.symm, h.2.2.1.symm, h.2.2.2.1.symm, sameD_symm h1 h.2.2.2.2⟩
theorem Alike.self (N : NA) : Alike N N := ⟨rfl, rfl, rfl, rfl, by unfold sameD; rw [Bool.and_eq_true, List.all_eq_true]; exact ⟨decide_eq_true rfl, fun p hp => decide_eq_true hp⟩⟩

/-- two nets side by side, laid since w0 -/
structure Duo (w0 w : World) (F F' M : Nat → Prop) (b c : Nat) (N N' : NA) : Prop where
  n : NetX w F M b N
  c : NetX w F' M c N'
  dis : ∀ k, F k → ¬ F' k
  base : ∀ k, M k → w0.heap.size ≤ k
  E : Ext w0 w
section
variable {w0 w w' : World} {F F' F1 M M1 : Nat → Prop} {b c : Nat} {N N' N1 : NA}
theorem Duo.ext (h : Duo w0 w F F' M b c N N') (hk : Ext w w') : Duo w0 w' F F' M b c N N' := ⟨h.n.ext hk, h.c.ext hk, h.dis, h.base, Keeps.ext h.E hk⟩
theorem Duo.old (h : Duo w0 w F F' M b c N N') {k : Nat} (hk : k < w0.heap.size) : ¬ F k ∧ ¬ F' k := ⟨fun h1 => by have := h.base k (h.n.FM k h1); omega, fun h1 => by have := h.base k (h.c.FM k h1); omega⟩
theorem Duo.stepN (h : Duo w0 w F F' M b c N N') (hn : NetX w' F1 M1 b N1) (hs : Step w w' F M F1 M1) : Duo w0 w' F1 F' M1 b c N1 N' :=
  ⟨hn, h.c.beside hs (fun k h1 h2 => h.dis k h2 h1) h.n.FM hn.below, fun k h1 h2 => (hs.inF k h1).elim (fun h3 => h.dis k h3 h2) (fun h3 => by have := h.c.below k (h.c.FM k h2); omega),
    fun k h1 => (hs.inM k h1).elim (h.base k) (fun h2 => Nat.le_trans h.E.size h2), h.E.then hs.keeps (fun i hi hf => by have := h.base i (h.n.FM i hf); omega)⟩
theorem Duo.stepC (h : Duo w0 w F F' M b c N N') (hn : NetX w' F1 M1 c N1) (hs : Step w w' F' M F1 M1) : Duo w0 w' F F1 M1 b c N N1 :=
  ⟨h.n.beside hs (fun k h1 h2 => h.dis k h1 h2) h.c.FM hn.below, hn, fun k h1 h2 => (hs.inF k h2).elim (h.dis k h1) (fun h3 => by have := h.n.below k (h.n.FM k h1); omega),
    fun k h1 => (hs.inM k h1).elim (h.base k) (fun h2 => Nat.le_trans h.E.size h2), h.E.then hs.keeps (fun i hi hf => by have := h.base i (h.c.FM i hf); omega)⟩
end
theorem copies_few {A : Nat → Prop} (w : World) (v vx vy : Value) (l : List Ac) (x y : Ac) (h : Acts w A v l) (hx : ActV w A vx x) (hy : ActV w A vy y) (hn : l.length ≤ 9223372036854775807) (hb : ∀ x ∈ l, x.bytes.length ≤ 9223372036854775807)
    (hxl : x.bytes.length ≤ 9223372036854775807) (hyl : y.bytes.length ≤ 9223372036854775807) (hf : fewOf l 30 = false) (hA : ∀ k, A k → k < w.heap.size) :
    Calls Try.prog 7 #[v, vx, vy] w fun e w' => e = .returned (.bool true) ∧ Ext w w' := by
  have HAA := Lib.hid hA
  have HV := Lib.hid h
  have HB := Lib.hid hb
  obtain ⟨a, c, rfl, -⟩ := h.at
  obtain ⟨bx, rfl, hbx⟩ := hx
  obtain ⟨by', rfl, hby⟩ := hy
  have HX := Lib.hid hbx
  have HY := Lib.hid hby
  have HXL := Lib.hid hxl
  have HYL := Lib.hid hyl
  obtain ⟨ax, cx, rfl⟩ := hbx.len
  obtain ⟨ay, cy, rfl⟩ := hby.len
  clear h hb hbx hby hA hxl hyl
  go_enter Try.func7, Try.ntmps7
  go_wp2_with fail
  have bz0 := ((Box.new w 36 [.int .i64 x.what, .int .i64 x.src, .int .i64 x.dst, .int .i64 x.pick, .slice ax x.bytes.length cx, .bool x.is]).alloc (Obj.cells #[.int .i64 y.what, .int .i64 y.src, .int .i64 y.dst, .int .i64 y.pick, .slice ay y.bytes.length cy, .bool y.is] 36))
  have bz1 := (Box.new (w.alloc (Obj.cells #[.int .i64 x.what, .int .i64 x.src, .int .i64 x.dst, .int .i64 x.pick, .slice ax x.bytes.length cx, .bool x.is] 36)) 36 [.int .i64 y.what, .int .i64 y.src, .int .i64 y.dst, .int .i64 y.pick, .slice ay y.bytes.length cy, .bool y.is])
  have ez : Ext w ((w.alloc (Obj.cells #[.int .i64 x.what, .int .i64 x.src, .int .i64 x.dst, .int .i64 x.pick, .slice ax x.bytes.length cx, .bool x.is] 36)).alloc (Obj.cells #[.int .i64 y.what, .int .i64 y.src, .int .i64 y.dst, .int .i64 y.pick, .slice ay y.bytes.length cy, .bool y.is] 36)) := (((Keeps.refl NoB w).alloc _).alloc _)
  have sz : ((w.alloc (Obj.cells #[.int .i64 x.what, .int .i64 x.src, .int .i64 x.dst, .int .i64 x.pick, .slice ax x.bytes.length cx, .bool x.is] 36)).alloc (Obj.cells #[.int .i64 y.what, .int .i64 y.src, .int .i64 y.dst, .int .i64 y.pick, .slice ay y.bytes.length cy, .bool y.is] 36)).heap.size = w.heap.size + 2 := by simp
  simp only [World.size_alloc] at bz1
  generalize ((w.alloc (Obj.cells #[.int .i64 x.what, .int .i64 x.src, .int .i64 x.dst, .int .i64 x.pick, .slice ax x.bytes.length cx, .bool x.is] 36)).alloc (Obj.cells #[.int .i64 y.what, .int .i64 y.src, .int .i64 y.dst, .int .i64 y.pick, .slice ay y.bytes.length cy, .bool y.is] 36)) = w0 at bz0 bz1 ez sz ⊢
  have Sz := Lib.hid sz
  clear sz
  have HE := Lib.hid ez
  have BX := Lib.hid bz0
  have BY := Lib.hid bz1
  have hs0 := bz1.lt
  clear ez bz0 bz1
  refine (few_any _ _ l 30 (HV.out.ext HE.out) hn HB.out).mono ?_
  rintro e w' ⟨rfl, rfl⟩
  rw [hf]
  obtain ⟨cBX, zBX⟩ := BX.out.reads
  have lBX := BX.out.lt
  obtain ⟨cBY, zBY⟩ := BY.out.reads
  have lBY := BY.out.lt
  go_wp2_with fail
  refine (works_any _).mono ?_
  rintro e w' ⟨rfl, hE⟩
  have HE2 := Lib.hid (HE.out.ext hE)
  clear hE
  go_wp2_with fail
  go_ret
  exact ⟨rfl, HE2.out⟩
theorem copies_few2 {A : Nat → Prop} (w : World) (v vx vy : Value) (l : List Ac) (x y : Ac) (h : Acts w A v l) (hx : ActV w A vx x) (hy : ActV w A vy y) (hn : l.length ≤ 9223372036854775807) (hb : ∀ x ∈ l, x.bytes.length ≤ 9223372036854775807)
    (hxl : x.bytes.length ≤ 9223372036854775807) (hyl : y.bytes.length ≤ 9223372036854775807) (hf : fewOf l 30 = true) (hf2 : fewOf [x, y] 2 = false) (hA : ∀ k, A k → k < w.heap.size) :
    Calls Try.prog 7 #[v, vx, vy] w fun e w' => e = .returned (.bool true) ∧ Ext w w' := by
  have HAA := Lib.hid hA
  have HV := Lib.hid h
  have HB := Lib.hid hb
  obtain ⟨a, c, rfl, -⟩ := h.at
  obtain ⟨bx, rfl, hbx⟩ := hx
  obtain ⟨by', rfl, hby⟩ := hy
  have HX := Lib.hid hbx
  have HY := Lib.hid hby
  have HXL := Lib.hid hxl
  have HYL := Lib.hid hyl
  obtain ⟨ax, cx, rfl⟩ := hbx.len
  obtain ⟨ay, cy, rfl⟩ := hby.len
  clear h hb hbx hby hA hxl hyl
  go_enter Try.func7, Try.ntmps7
  go_wp2_with fail
  have bz0 := ((Box.new w 36 [.int .i64 x.what, .int .i64 x.src, .int .i64 x.dst, .int .i64 x.pick, .slice ax x.bytes.length cx, .bool x.is]).alloc (Obj.cells #[.int .i64 y.what, .int .i64 y.src, .int .i64 y.dst, .int .i64 y.pick, .slice ay y.bytes.length cy, .bool y.is] 36))
  have bz1 := (Box.new (w.alloc (Obj.cells #[.int .i64 x.what, .int .i64 x.src, .int .i64 x.dst, .int .i64 x.pick, .slice ax x.bytes.length cx, .bool x.is] 36)) 36 [.int .i64 y.what, .int .i64 y.src, .int .i64 y.dst, .int .i64 y.pick, .slice ay y.bytes.length cy, .bool y.is])
  have ez : Ext w ((w.alloc (Obj.cells #[.int .i64 x.what, .int .i64 x.src, .int .i64 x.dst, .int .i64 x.pick, .slice ax x.bytes.length cx, .bool x.is] 36)).alloc (Obj.cells #[.int .i64 y.what, .int .i64 y.src, .int .i64 y.dst, .int .i64 y.pick, .slice ay y.bytes.length cy, .bool y.is] 36)) := (((Keeps.refl NoB w).alloc _).alloc _)
  have sz : ((w.alloc (Obj.cells #[.int .i64 x.what, .int .i64 x.src, .int .i64 x.dst, .int .i64 x.pick, .slice ax x.bytes.length cx, .bool x.is] 36)).alloc (Obj.cells #[.int .i64 y.what, .int .i64 y.src, .int .i64 y.dst, .int .i64 y.pick, .slice ay y.bytes.length cy, .bool y.is] 36)).heap.size = w.heap.size + 2 := by simp
  simp only [World.size_alloc] at bz1
  generalize ((w.alloc (Obj.cells #[.int .i64 x.what, .int .i64 x.src, .int .i64 x.dst, .int .i64 x.pick, .slice ax x.bytes.length cx, .bool x.is] 36)).alloc (Obj.cells #[.int .i64 y.what, .int .i64 y.src, .int .i64 y.dst, .int .i64 y.pick, .slice ay y.bytes.length cy, .bool y.is] 36)) = w0 at bz0 bz1 ez sz ⊢
  have Sz := Lib.hid sz
  clear sz
  have HE := Lib.hid ez
  have BX := Lib.hid bz0
  have BY := Lib.hid bz1
  have hs0 := bz1.lt
  clear ez bz0 bz1
  refine (few_any _ _ l 30 (HV.out.ext HE.out) hn HB.out).mono ?_
  rintro e w' ⟨rfl, rfl⟩
  rw [hf]
  obtain ⟨cBX, zBX⟩ := BX.out.reads
  have lBX := BX.out.lt
  obtain ⟨cBY, zBY⟩ := BY.out.reads
  have lBY := BY.out.lt
  go_wp2_with fail
  clear cBX zBX lBX cBY zBY lBY
  have bk0 := (Box.new w0 36 [.int .i64 x.what, .int .i64 x.src, .int .i64 x.dst, .int .i64 x.pick, .slice ax x.bytes.length cx, .bool x.is, .int .i64 y.what, .int .i64 y.src, .int .i64 y.dst, .int .i64 y.pick, .slice ay y.bytes.length cy, .bool y.is])
  have ek : Ext w0 (w0.alloc (Obj.cells #[.int .i64 x.what, .int .i64 x.src, .int .i64 x.dst, .int .i64 x.pick, .slice ax x.bytes.length cx, .bool x.is, .int .i64 y.what, .int .i64 y.src, .int .i64 y.dst, .int .i64 y.pick, .slice ay y.bytes.length cy, .bool y.is] 36)) := ((Keeps.refl NoB w0).alloc _)
  have sk : (w0.alloc (Obj.cells #[.int .i64 x.what, .int .i64 x.src, .int .i64 x.dst, .int .i64 x.pick, .slice ax x.bytes.length cx, .bool x.is, .int .i64 y.what, .int .i64 y.src, .int .i64 y.dst, .int .i64 y.pick, .slice ay y.bytes.length cy, .bool y.is] 36)).heap.size = w0.heap.size + 1 := by simp
  generalize (w0.alloc (Obj.cells #[.int .i64 x.what, .int .i64 x.src, .int .i64 x.dst, .int .i64 x.pick, .slice ax x.bytes.length cx, .bool x.is, .int .i64 y.what, .int .i64 y.src, .int .i64 y.dst, .int .i64 y.pick, .slice ay y.bytes.length cy, .bool y.is] 36)) = w1 at bk0 ek sk ⊢
  have Sk := Lib.hid sk
  clear sk
  have h01 := bk0.lt
  replace HE := Lib.hid (HE.out.ext ek)
  replace BX := Lib.hid (BX.out.ext ek)
  replace BY := Lib.hid (BY.out.ext ek)
  refine (few_any (A := fun k => A k ∨ k = w0.heap.size) _ _ [x, y] 2 (acts_two bk0 ((HX.out.ext HE.out).mono (fun k hk => .inl hk)) ((HY.out.ext HE.out).mono (fun k hk => .inl hk)) (.inr rfl)) (by simp) (by
    intro z hz
    simp only [List.mem_cons, List.not_mem_nil, or_false] at hz
    rcases hz with rfl | rfl
    · exact HXL.out
    · exact HYL.out)).mono ?_
  rintro e w' ⟨rfl, rfl⟩
  clear ek bk0
  rw [hf2]
  go_wp2_with fail
  refine (works_any _).mono ?_
  rintro e w' ⟨rfl, hE⟩
  have HE2 := Lib.hid (HE.out.ext hE)
  clear hE
  go_wp2_with fail
  go_ret
  exact ⟨rfl, HE2.out⟩
set_option maxHeartbeats 8000000 in
theorem copies_in {A : Nat → Prop} (w : World) (v vx vy : Value) (l : List Ac) (x y : Ac) (h : Acts w A v l) (hx : ActV w A vx x) (hy : ActV w A vy y) (hn : l.length ≤ 9223372036854775807) (hb : ∀ x ∈ l, x.bytes.length ≤ 9223372036854775807)
    (hxl : x.bytes.length ≤ 9223372036854775807) (hyl : y.bytes.length ≤ 9223372036854775807) (hf : fewOf l 30 = true) (hf2 : fewOf [x, y] 2 = true) (hok : ∀ x ∈ l, x.ok) (hxo : x.ok) (hyo : y.ok) (hA : ∀ k, A k → k < w.heap.size) :
    Calls Try.prog 7 #[v, vx, vy] w fun e w' => e = .returned (.bool true) ∧ Ext w w' := by
  obtain ⟨hs200, hl30⟩ := few_spec hf
  obtain ⟨hs2, -⟩ := few_spec hf2
  have hx200 := hs2 x (by simp)
  have hy200 := hs2 y (by simp)
  have HS := Lib.hid hs200
  have HOK := Lib.hid hok
  have HXO := Lib.hid hxo
  have HYO := Lib.hid hyo
  clear hs200 hs2 hok hxo hyo
  have HAA := Lib.hid hA
  have HV := Lib.hid h
  have HB := Lib.hid hb
  obtain ⟨a, c, rfl, -⟩ := h.at
  obtain ⟨bx, rfl, hbx⟩ := hx
  obtain ⟨by', rfl, hby⟩ := hy
  have HX := Lib.hid hbx
  have HY := Lib.hid hby
  have HXL := Lib.hid hxl
  have HYL := Lib.hid hyl
  obtain ⟨ax, cx, rfl⟩ := hbx.len
  obtain ⟨ay, cy, rfl⟩ := hby.len
  clear h hb hbx hby hA hxl hyl
  go_enter Try.func7, Try.ntmps7
  go_wp2_with fail
  have bz0 := ((Box.new w 36 [.int .i64 x.what, .int .i64 x.src, .int .i64 x.dst, .int .i64 x.pick, .slice ax x.bytes.length cx, .bool x.is]).alloc (Obj.cells #[.int .i64 y.what, .int .i64 y.src, .int .i64 y.dst, .int .i64 y.pick, .slice ay y.bytes.length cy, .bool y.is] 36))
  have bz1 := (Box.new (w.alloc (Obj.cells #[.int .i64 x.what, .int .i64 x.src, .int .i64 x.dst, .int .i64 x.pick, .slice ax x.bytes.length cx, .bool x.is] 36)) 36 [.int .i64 y.what, .int .i64 y.src, .int .i64 y.dst, .int .i64 y.pick, .slice ay y.bytes.length cy, .bool y.is])
  have ez : Ext w ((w.alloc (Obj.cells #[.int .i64 x.what, .int .i64 x.src, .int .i64 x.dst, .int .i64 x.pick, .slice ax x.bytes.length cx, .bool x.is] 36)).alloc (Obj.cells #[.int .i64 y.what, .int .i64 y.src, .int .i64 y.dst, .int .i64 y.pick, .slice ay y.bytes.length cy, .bool y.is] 36)) := (((Keeps.refl NoB w).alloc _).alloc _)
  have sz : ((w.alloc (Obj.cells #[.int .i64 x.what, .int .i64 x.src, .int .i64 x.dst, .int .i64 x.pick, .slice ax x.bytes.length cx, .bool x.is] 36)).alloc (Obj.cells #[.int .i64 y.what, .int .i64 y.src, .int .i64 y.dst, .int .i64 y.pick, .slice ay y.bytes.length cy, .bool y.is] 36)).heap.size = w.heap.size + 2 := by simp
  simp only [World.size_alloc] at bz1
  generalize ((w.alloc (Obj.cells #[.int .i64 x.what, .int .i64 x.src, .int .i64 x.dst, .int .i64 x.pick, .slice ax x.bytes.length cx, .bool x.is] 36)).alloc (Obj.cells #[.int .i64 y.what, .int .i64 y.src, .int .i64 y.dst, .int .i64 y.pick, .slice ay y.bytes.length cy, .bool y.is] 36)) = w0 at bz0 bz1 ez sz ⊢
  have Sz := Lib.hid sz
  clear sz
  have HE := Lib.hid ez
  have BX := Lib.hid bz0
  have BY := Lib.hid bz1
  have hs0 := bz1.lt
  clear ez bz0 bz1
  refine (few_any _ _ l 30 (HV.out.ext HE.out) hn HB.out).mono ?_
  rintro e w' ⟨rfl, rfl⟩
  rw [hf]
  obtain ⟨cBX, zBX⟩ := BX.out.reads
  have lBX := BX.out.lt
  obtain ⟨cBY, zBY⟩ := BY.out.reads
  have lBY := BY.out.lt
  go_wp2_with fail
  clear cBX zBX lBX cBY zBY lBY
  have bk0 := (Box.new w0 36 [.int .i64 x.what, .int .i64 x.src, .int .i64 x.dst, .int .i64 x.pick, .slice ax x.bytes.length cx, .bool x.is, .int .i64 y.what, .int .i64 y.src, .int .i64 y.dst, .int .i64 y.pick, .slice ay y.bytes.length cy, .bool y.is])
  have ek : Ext w0 (w0.alloc (Obj.cells #[.int .i64 x.what, .int .i64 x.src, .int .i64 x.dst, .int .i64 x.pick, .slice ax x.bytes.length cx, .bool x.is, .int .i64 y.what, .int .i64 y.src, .int .i64 y.dst, .int .i64 y.pick, .slice ay y.bytes.length cy, .bool y.is] 36)) := ((Keeps.refl NoB w0).alloc _)
  have sk : (w0.alloc (Obj.cells #[.int .i64 x.what, .int .i64 x.src, .int .i64 x.dst, .int .i64 x.pick, .slice ax x.bytes.length cx, .bool x.is, .int .i64 y.what, .int .i64 y.src, .int .i64 y.dst, .int .i64 y.pick, .slice ay y.bytes.length cy, .bool y.is] 36)).heap.size = w0.heap.size + 1 := by simp
  generalize (w0.alloc (Obj.cells #[.int .i64 x.what, .int .i64 x.src, .int .i64 x.dst, .int .i64 x.pick, .slice ax x.bytes.length cx, .bool x.is, .int .i64 y.what, .int .i64 y.src, .int .i64 y.dst, .int .i64 y.pick, .slice ay y.bytes.length cy, .bool y.is] 36)) = w1 at bk0 ek sk ⊢
  have Sk := Lib.hid sk
  clear sk
  have h01 := bk0.lt
  replace HE := Lib.hid (HE.out.ext ek)
  replace BX := Lib.hid (BX.out.ext ek)
  replace BY := Lib.hid (BY.out.ext ek)
  refine (few_any (A := fun k => A k ∨ k = w0.heap.size) _ _ [x, y] 2 (acts_two bk0 ((HX.out.ext HE.out).mono (fun k hk => .inl hk)) ((HY.out.ext HE.out).mono (fun k hk => .inl hk)) (.inr rfl)) (by simp) (by
    intro z hz
    simp only [List.mem_cons, List.not_mem_nil, or_false] at hz
    rcases hz with rfl | rfl
    · exact HXL.out
    · exact HYL.out)).mono ?_
  rintro e w' ⟨rfl, rfl⟩
  clear ek bk0
  rw [hf2]
  have hww1 := HE.out.size
  obtain ⟨cBX, zBX⟩ := BX.out.reads
  have lBX := BX.out.lt
  obtain ⟨cBY, zBY⟩ := BY.out.reads
  have lBY := BY.out.lt
  go_wp2_with fail
  clear cBX zBX lBX cBY zBY lBY
  refine (played_in (A := A) w1 4 20 _ l (HV.out.ext HE.out) (by decide) (by decide) (by decide) (by decide) (fun x hx => ⟨HOK.out x hx, HS.out x hx⟩) (by omega) (fun k hk => Nat.lt_of_lt_of_le (HAA.out k hk) hww1)).mono ?_
  rintro e w2 ⟨F, M, b, v2, rfl, hrig, hw, hbd⟩
  have hmost : ((NA.new 4 20).acts l).most = 20 := NA.acts_most _ _
  obtain ⟨N, hN⟩ : ∃ N, (NA.new 4 20).acts l = N := ⟨_, rfl⟩
  rw [hN] at hrig hw hbd hmost
  obtain ⟨a2, cc2, a2', cc2', rfl⟩ := hw.len
  have HBW2 : Hid (∀ k, M k → k < w2.heap.size) := Lib.hid hrig.net.below
  have HR := Lib.hid hrig
  have HW := Lib.hid hw
  have HBD := Lib.hid hbd
  have HMO := Lib.hid hmost
  have hE := hrig.E
  have h12 := hE.size
  have HE12 := Lib.hid hE
  replace BX := Lib.hid (BX.out.ext hE)
  replace BY := Lib.hid (BY.out.ext hE)
  clear hE hrig hw hbd hN hmost
  obtain ⟨cBX, zBX⟩ := BX.out.reads
  have lBX := BX.out.lt
  obtain ⟨cBY, zBY⟩ := BY.out.reads
  have lBY := BY.out.lt
  go_wp2_with fail
  clear cBX zBX lBX cBY zBY lBY
  have bp0 := (Box.new w2 41 [.int .i64 (N.ends : Int), .int .i64 (N.most : Int), .int .i64 (N.came : Int), .slice a2 N.l.length cc2, .slice a2' N.downs.length cc2'])
  have ep : Ext w2 (w2.alloc (Obj.cells #[.int .i64 (N.ends : Int), .int .i64 (N.most : Int), .int .i64 (N.came : Int), .slice a2 N.l.length cc2, .slice a2' N.downs.length cc2'] 41)) := ((Keeps.refl NoB w2).alloc _)
  have sp : (w2.alloc (Obj.cells #[.int .i64 (N.ends : Int), .int .i64 (N.most : Int), .int .i64 (N.came : Int), .slice a2 N.l.length cc2, .slice a2' N.downs.length cc2'] 41)).heap.size = w2.heap.size + 1 := by simp
  generalize (w2.alloc (Obj.cells #[.int .i64 (N.ends : Int), .int .i64 (N.most : Int), .int .i64 (N.came : Int), .slice a2 N.l.length cc2, .slice a2' N.downs.length cc2'] 41)) = w3 at bp0 ep sp ⊢
  have Sp := Lib.hid sp
  clear sp
  have BW := Lib.hid bp0
  have h23 := bp0.lt
  replace HR := Lib.hid (HR.out.ext ep)
  replace HW := Lib.hid (HW.out.ext ep)
  replace BX := Lib.hid (BX.out.ext ep)
  replace BY := Lib.hid (BY.out.ext ep)
  clear ep bp0
  refine (copy_net w3 b N HR.out.net).mono ?_
  rintro e w4 ⟨c, F', rfl, hc, hF', hE⟩
  have HD : Hid (Duo w1 w4 F F' (fun k => M k ∨ Fr w3 w4 k) b c N N) := Lib.hid ⟨HR.out.net.more hE (fun k hk => .inl hk) (fun k hk => hk), hc, fun k h1 h2 => by have := HR.out.net.below k (HR.out.net.FM k h1); have := (hF' k h2).1; omega, fun k hk => hk.elim (HR.out.base k) (fun h => by have := h.1; omega), HR.out.E.ext hE⟩
  replace HW : Hid (RefX w4 (fun k => M k ∨ Fr w3 w4 k) _ N) := Lib.hid (HW.out.more hE (fun k hk => hk.imp id (fun h => h.1)))
  have HBW : Hid (¬ F w2.heap.size ∧ ¬ F' w2.heap.size) := Lib.hid ⟨fun h => by have h1 := HR.out.net.FM _ h; have := HBW2.out _ h1; omega, fun h => by have := (hF' _ h).1; omega⟩
  have h34 := hE.size
  replace BX := Lib.hid (BX.out.ext hE)
  replace BY := Lib.hid (BY.out.ext hE)
  replace BW := Lib.hid (BW.out.ext hE)
  clear hE hc hF' HR
  obtain ⟨M4, hM4⟩ : ∃ M4, M4 = (fun k => M k ∨ Fr w3 w4 k) := ⟨_, rfl⟩
  rw [← hM4] at HD HW
  clear hM4 HBW2
  obtain ⟨cBX, zBX⟩ := BX.out.reads
  have lBX := BX.out.lt
  obtain ⟨cBY, zBY⟩ := BY.out.reads
  have lBY := BY.out.lt
  obtain ⟨cBW, zBW⟩ := BW.out.reads
  have lBW := BW.out.lt
  go_wp2_with fail
  clear cBX zBX lBX cBY zBY lBY cBW zBW lBW
  refine (new_any w4 4 21 4 21 rfl rfl (by decide) (by decide) (by decide) (by decide)).mono ?_
  rintro e w5 ⟨o, rfl, ho, hE⟩
  have HO := Lib.hid ho
  have h45 := hE.size
  replace BX := Lib.hid (BX.out.ext hE)
  replace BY := Lib.hid (BY.out.ext hE)
  replace BW := Lib.hid (BW.out.ext hE)
  replace HD := Lib.hid (HD.out.ext hE)
  replace HW := Lib.hid (HW.out.ext hE)
  clear hE ho
  obtain ⟨cBX, zBX⟩ := BX.out.reads
  have lBX := BX.out.lt
  obtain ⟨cBY, zBY⟩ := BY.out.reads
  have lBY := BY.out.lt
  obtain ⟨cBW, zBW⟩ := BW.out.reads
  have lBW := BW.out.lt
  go_wp2_with fail
  clear cBX zBX lBX cBY zBY lBY cBW zBW lBW
  refine (same_net w5 b c N N HD.out.n HD.out.c (by have := HBD.out.d; omega) (by have := HBD.out.d; omega)).mono ?_
  rintro e w6 ⟨bl, rfl, hbl, hE⟩
  obtain rfl : bl = true := hbl.2 (Alike.self N)
  have h56 := hE.size
  replace BX := Lib.hid (BX.out.ext hE)
  replace BY := Lib.hid (BY.out.ext hE)
  replace BW := Lib.hid (BW.out.ext hE)
  replace HD := Lib.hid (HD.out.ext hE)
  replace HW := Lib.hid (HW.out.ext hE)
  replace HO := Lib.hid (HO.out.ext hE)
  clear hE hbl
  obtain ⟨cBX, zBX⟩ := BX.out.reads
  have lBX := BX.out.lt
  obtain ⟨cBY, zBY⟩ := BY.out.reads
  have lBY := BY.out.lt
  obtain ⟨cBW, zBW⟩ := BW.out.reads
  have lBW := BW.out.lt
  go_wp2_with fail
  clear cBX zBX lBX cBY zBY lBY cBW zBW lBW
  refine (same_net w6 b o N ⟨4, 21, 0, [], []⟩ HD.out.n HO.out (by have := HBD.out.d; omega) (by simp)).mono ?_
  rintro e w7 ⟨bl, rfl, hbl, hE⟩
  obtain rfl : bl = false := by
    cases bl with
    | false => rfl
    | true => have h1 := (hbl.1 rfl).2.1; have := HMO.out; rw [this] at h1; exact absurd h1 (by decide)
  have h67 := hE.size
  replace BX := Lib.hid (BX.out.ext hE)
  replace BY := Lib.hid (BY.out.ext hE)
  replace BW := Lib.hid (BW.out.ext hE)
  replace HD := Lib.hid (HD.out.ext hE)
  replace HW := Lib.hid (HW.out.ext hE)
  clear hE hbl HO
  obtain ⟨cBX, zBX⟩ := BX.out.reads
  have lBX := BX.out.lt
  obtain ⟨cBY, zBY⟩ := BY.out.reads
  have lBY := BY.out.lt
  obtain ⟨cBW, zBW⟩ := BW.out.reads
  have lBW := BW.out.lt
  go_wp2_with fail
  clear cBX zBX lBX cBY zBY lBY cBW zBW lBW
  refine (is_any w7 c N _ HD.out.c HW.out (by have := HBD.out.c; omega)).mono ?_
  rintro e w8 ⟨rfl, hE⟩
  have h78 := hE.size
  replace BX := Lib.hid (BX.out.ext hE)
  replace BY := Lib.hid (BY.out.ext hE)
  replace BW := Lib.hid (BW.out.ext hE)
  replace HD := Lib.hid (HD.out.ext hE)
  replace HW := Lib.hid (HW.out.ext hE)
  clear hE
  obtain ⟨cBX, zBX⟩ := BX.out.reads
  have lBX := BX.out.lt
  obtain ⟨cBY, zBY⟩ := BY.out.reads
  have lBY := BY.out.lt
  obtain ⟨cBW, zBW⟩ := BW.out.reads
  have lBW := BW.out.lt
  go_wp2_with fail
  clear cBX zBX lBX cBY zBY lBY cBW zBW lBW
  have hw18 : Ext w w8 := HE.out.ext HD.out.E
  refine (act_any (B := A) w8 b N _ _ x l.length HD.out.n HW.out ⟨_, rfl, HX.out.ext hw18⟩ HXO.out hx200 HBD.out (by omega)).mono ?_
  rintro e w9 ⟨F1, M1, v9, rfl, hn9, hw9, hs9⟩
  have HBD1 := Lib.hid (HBD.out.act x)
  obtain ⟨N1, hN1⟩ : ∃ N1, N.act x = N1 := ⟨_, rfl⟩
  rw [hN1] at hn9 hw9 HBD1
  obtain ⟨a9, c9, a9', c9', rfl⟩ := hw9.len
  have HW1 := Lib.hid hw9
  have h89 := hs9.keeps.size
  have hold := fun k (hk : k < w1.heap.size) => HD.out.old hk
  replace HW : Hid (RefX w9 M1 _ N) := Lib.hid (HW.out.go hs9.keeps (fun k _ hk => HD.out.n.FM k hk) (fun k hk => hs9.inM k hk))
  replace BX := Lib.hid (BX.out.keeps hs9.keeps (hold _ (by omega)).1)
  replace BY := Lib.hid (BY.out.keeps hs9.keeps (hold _ (by omega)).1)
  replace BW := Lib.hid (BW.out.keeps hs9.keeps HBW.out.1)
  have HBF1 : Hid (¬ F1 w2.heap.size ∧ ¬ F' w2.heap.size) := Lib.hid ⟨fun h => (hs9.inF _ h).elim HBW.out.1 (fun h => by omega), HBW.out.2⟩
  replace HD := Lib.hid (HD.out.stepN hn9 hs9)
  clear hn9 hw9 hs9 hN1 hold hw18 HBW
  obtain ⟨cBX, zBX⟩ := BX.out.reads
  have lBX := BX.out.lt
  obtain ⟨cBY, zBY⟩ := BY.out.reads
  have lBY := BY.out.lt
  obtain ⟨cBW, zBW⟩ := BW.out.reads
  have lBW := BW.out.lt
  go_wp2_with fail
  clear cBX zBX lBX cBY zBY lBY cBW zBW lBW
  have br0 := (Box.new w9 41 [.int .i64 (N1.ends : Int), .int .i64 (N1.most : Int), .int .i64 (N1.came : Int), .slice a9 N1.l.length c9, .slice a9' N1.downs.length c9'])
  have er : Ext w9 (w9.alloc (Obj.cells #[.int .i64 (N1.ends : Int), .int .i64 (N1.most : Int), .int .i64 (N1.came : Int), .slice a9 N1.l.length c9, .slice a9' N1.downs.length c9'] 41)) := ((Keeps.refl NoB w9).alloc _)
  have sr : (w9.alloc (Obj.cells #[.int .i64 (N1.ends : Int), .int .i64 (N1.most : Int), .int .i64 (N1.came : Int), .slice a9 N1.l.length c9, .slice a9' N1.downs.length c9'] 41)).heap.size = w9.heap.size + 1 := by simp
  generalize (w9.alloc (Obj.cells #[.int .i64 (N1.ends : Int), .int .i64 (N1.most : Int), .int .i64 (N1.came : Int), .slice a9 N1.l.length c9, .slice a9' N1.downs.length c9'] 41)) = w10 at br0 er sr ⊢
  have Sr := Lib.hid sr
  clear sr
  have BN := Lib.hid br0
  have h910 := br0.lt
  have HFN : Hid (¬ F' w9.heap.size) := Lib.hid (fun h => by have := HD.out.c.below _ (HD.out.c.FM _ h); omega)
  replace BX := Lib.hid (BX.out.ext er)
  replace BY := Lib.hid (BY.out.ext er)
  replace BW := Lib.hid (BW.out.ext er)
  replace HD := Lib.hid (HD.out.ext er)
  replace HW := Lib.hid (HW.out.ext er)
  replace HW1 := Lib.hid (HW1.out.ext er)
  clear er br0
  refine (rsame_any w10 _ _ N N1 HW.out HW1.out HBD.out.l (by have := HBD.out.d; omega)).mono ?_
  rintro e w11 ⟨bl, rfl, hbl, hE⟩
  have HBL := Lib.hid hbl
  have h1011 := hE.size
  replace BX := Lib.hid (BX.out.ext hE)
  replace BY := Lib.hid (BY.out.ext hE)
  replace BW := Lib.hid (BW.out.ext hE)
  replace BN := Lib.hid (BN.out.ext hE)
  replace HD := Lib.hid (HD.out.ext hE)
  replace HW := Lib.hid (HW.out.ext hE)
  replace HW1 := Lib.hid (HW1.out.ext hE)
  clear hE hbl
  obtain ⟨cBX, zBX⟩ := BX.out.reads
  have lBX := BX.out.lt
  obtain ⟨cBY, zBY⟩ := BY.out.reads
  have lBY := BY.out.lt
  obtain ⟨cBW, zBW⟩ := BW.out.reads
  have lBW := BW.out.lt
  obtain ⟨cBN, zBN⟩ := BN.out.reads
  have lBN := BN.out.lt
  go_wp2_with fail
  clear cBX zBX lBX cBY zBY lBY cBW zBW lBW cBN zBN lBN
  refine (same_net w11 b c N1 N HD.out.n HD.out.c (by have := HBD1.out.d; omega) (by have := HBD.out.d; omega)).mono ?_
  rintro e w12 ⟨bl2, rfl, hbl2, hE⟩
  obtain rfl : bl2 = bl := Bool.eq_of_iff hbl2 (HBL.out.trans ⟨fun h => h.symm HD.out.c.nodup, fun h => h.symm HD.out.n.nodup⟩)
  have h1112 := hE.size
  replace BX := Lib.hid (BX.out.ext hE)
  replace BY := Lib.hid (BY.out.ext hE)
  replace BW := Lib.hid (BW.out.ext hE)
  replace BN := Lib.hid (BN.out.ext hE)
  replace HD := Lib.hid (HD.out.ext hE)
  replace HW := Lib.hid (HW.out.ext hE)
  replace HW1 := Lib.hid (HW1.out.ext hE)
  clear hE hbl2
  obtain ⟨cBX, zBX⟩ := BX.out.reads
  have lBX := BX.out.lt
  obtain ⟨cBY, zBY⟩ := BY.out.reads
  have lBY := BY.out.lt
  obtain ⟨cBW, zBW⟩ := BW.out.reads
  have lBW := BW.out.lt
  obtain ⟨cBN, zBN⟩ := BN.out.reads
  have lBN := BN.out.lt
  go_wp2_with fail
  clear cBX zBX lBX cBY zBY lBY cBW zBW lBW cBN zBN lBN
  refine (same_net w12 c b N N1 HD.out.c HD.out.n (by have := HBD.out.d; omega) (by have := HBD1.out.d; omega)).mono ?_
  rintro e w13 ⟨bl3, rfl, hbl3, hE⟩
  obtain rfl : bl3 = bl2 := Bool.eq_of_iff hbl3 HBL.out
  have h1213 := hE.size
  replace BX := Lib.hid (BX.out.ext hE)
  replace BY := Lib.hid (BY.out.ext hE)
  replace BW := Lib.hid (BW.out.ext hE)
  replace BN := Lib.hid (BN.out.ext hE)
  replace HD := Lib.hid (HD.out.ext hE)
  replace HW := Lib.hid (HW.out.ext hE)
  replace HW1 := Lib.hid (HW1.out.ext hE)
  clear hE hbl3 HBL
  obtain ⟨cBX, zBX⟩ := BX.out.reads
  have lBX := BX.out.lt
  obtain ⟨cBY, zBY⟩ := BY.out.reads
  have lBY := BY.out.lt
  obtain ⟨cBW, zBW⟩ := BW.out.reads
  have lBW := BW.out.lt
  obtain ⟨cBN, zBN⟩ := BN.out.reads
  have lBN := BN.out.lt
  go_wp2_with fail
  clear cBX zBX lBX cBY zBY lBY cBW zBW lBW cBN zBN lBN
  have hw113 : Ext w w13 := HE.out.ext HD.out.E
  refine (act_any (B := A) w13 c N _ _ y l.length HD.out.c HW.out ⟨_, rfl, HY.out.ext hw113⟩ HYO.out hy200 HBD.out (by omega)).mono ?_
  rintro e w14 ⟨F2, M2, v14, rfl, hn14, hw14, hs14⟩
  have HBD2 := Lib.hid (HBD.out.act y)
  obtain ⟨N2, hN2⟩ : ∃ N2, N.act y = N2 := ⟨_, rfl⟩
  rw [hN2] at hn14 hw14 HBD2
  obtain ⟨a14, c14, a14', c14', rfl⟩ := hw14.len
  have HW2 := Lib.hid hw14
  have h1314 := hs14.keeps.size
  replace HW1 : Hid (RefX w14 M2 _ N1) := Lib.hid (HW1.out.go hs14.keeps (fun k _ hk => HD.out.c.FM k hk) (fun k hk => hs14.inM k hk))
  replace BN := Lib.hid (BN.out.keeps hs14.keeps HFN.out)
  replace HD := Lib.hid (HD.out.stepC hn14 hs14)
  clear hn14 hw14 hs14 hN2 hw113 BX BY BW HW HFN HBF1
  obtain ⟨cBN, zBN⟩ := BN.out.reads
  have lBN := BN.out.lt
  go_wp2_with fail
  clear cBN zBN lBN
  have bs0 := (Box.new w14 41 [.int .i64 (N2.ends : Int), .int .i64 (N2.most : Int), .int .i64 (N2.came : Int), .slice a14 N2.l.length c14, .slice a14' N2.downs.length c14'])
  have es : Ext w14 (w14.alloc (Obj.cells #[.int .i64 (N2.ends : Int), .int .i64 (N2.most : Int), .int .i64 (N2.came : Int), .slice a14 N2.l.length c14, .slice a14' N2.downs.length c14'] 41)) := ((Keeps.refl NoB w14).alloc _)
  have ss : (w14.alloc (Obj.cells #[.int .i64 (N2.ends : Int), .int .i64 (N2.most : Int), .int .i64 (N2.came : Int), .slice a14 N2.l.length c14, .slice a14' N2.downs.length c14'] 41)).heap.size = w14.heap.size + 1 := by simp
  generalize (w14.alloc (Obj.cells #[.int .i64 (N2.ends : Int), .int .i64 (N2.most : Int), .int .i64 (N2.came : Int), .slice a14 N2.l.length c14, .slice a14' N2.downs.length c14'] 41)) = w15 at bs0 es ss ⊢
  have Ss := Lib.hid ss
  clear ss
  have BL := Lib.hid bs0
  have h1415 := bs0.lt
  replace BN := Lib.hid (BN.out.ext es)
  replace HD := Lib.hid (HD.out.ext es)
  replace HW1 := Lib.hid (HW1.out.ext es)
  replace HW2 := Lib.hid (HW2.out.ext es)
  clear es bs0
  refine (is_any w15 b N1 _ HD.out.n HW1.out (by have := HBD1.out.c; omega)).mono ?_
  rintro e w16 ⟨rfl, hE⟩
  have h1516 := hE.size
  replace BL := Lib.hid (BL.out.ext hE)
  replace HD := Lib.hid (HD.out.ext hE)
  replace HW2 := Lib.hid (HW2.out.ext hE)
  clear hE BN HW1
  obtain ⟨cBL, zBL⟩ := BL.out.reads
  have lBL := BL.out.lt
  go_wp2_with fail
  clear cBL zBL lBL
  refine (is_any w16 c N2 _ HD.out.c HW2.out (by have := HBD2.out.c; omega)).mono ?_
  rintro e w17 ⟨rfl, hE⟩
  replace HD := Lib.hid (HD.out.ext hE)
  clear hE BL HW2
  go_wp2_with fail
  refine (works_any _).mono ?_
  rintro e w18 ⟨rfl, hE⟩
  have HE18 := Lib.hid hE
  clear hE
  go_wp2_with fail
  go_ret
  exact ⟨rfl, (HE.out.ext HD.out.E).ext HE18.out⟩
end Go.Proofs.Ytdiogipdcpiffaa
