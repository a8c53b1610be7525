/- The net's own functions, each by its contract: New and Put. Conditions: the net lies as 'NetX' says. -/
import Derived.Test.YtdiogipdcpiffaaNetG
set_option linter.unusedVariables false
set_option maxHeartbeats 400000
set_option maxRecDepth 10000
namespace Go.Proofs.Ytdiogipdcpiffaa
open Go.RowKit

theorem new_bad (w : World) (e m : Int) (h : e < 1 ∨ 64 < e ∨ m < 1 ∨ 4096 < m) :
    Calls Try.prog 10 #[.int .i64 e, .int .i64 m] w fun r w' => r = .returned (.tuple #[.pointer none, .int .i64 2]) ∧ w = w' := by
  by_cases h1 : e < 1
  · go_enter Try.func10, Try.ntmps10
    go_wp2_with fail
    go_ret2
    exact ⟨rfl, rfl⟩
  by_cases h2 : 64 < e
  · go_enter Try.func10, Try.ntmps10
    go_wp2_with fail
    go_ret2
    exact ⟨rfl, rfl⟩
  by_cases h3 : m < 1
  · go_enter Try.func10, Try.ntmps10
    go_wp2_with fail
    go_ret2
    exact ⟨rfl, rfl⟩
  have h4 : 4096 < m := by omega
  clear h
  go_enter Try.func10, Try.ntmps10
  go_wp2_with fail
  go_ret2
  exact ⟨rfl, rfl⟩
theorem new_any (w : World) (e m : Nat) (ze zm : Int) (hze : ze = e) (hzm : zm = m) (h1 : 1 ≤ e) (h2 : e ≤ 64) (h3 : 1 ≤ m) (h4 : m ≤ 4096) :
    Calls Try.prog 10 #[.int .i64 ze, .int .i64 zm] w fun r w' => ∃ b, r = .returned (.tuple #[.pointer (some ⟨b, 0, none⟩), .int .i64 0]) ∧ NetX w' (Fr w w') (Fr w w') b ⟨e, m, 0, [], []⟩ ∧ Ext w w' := by
  subst hze hzm
  have hmm := @run_makeMap Try.prog
  go_enter Try.func10, Try.ntmps10
  go_wp2_with fail
  have b0 := Box.new (w.alloc (Obj.map #[] 0)) 72 [.int .i64 (e : Int), .int .i64 (m : Int), .int .i64 0, .slice none 0 0, .map (some w.heap.size)]
  simp only [World.size_alloc] at b0
  have s0 := (set_new w).ext (((Keeps.refl NoB _).alloc (Obj.cells #[.int .i64 (e : Int), .int .i64 (m : Int), .int .i64 0, .slice none 0 0, .map (some w.heap.size)] 72)))
  go_ret2
  refine ⟨w.heap.size + 1, rfl, ⟨fun _ => False, w.heap.size, .slice none 0 0, [], ?_⟩, ((Keeps.refl _ _).alloc _).alloc _⟩
  exact ⟨b0, Win.nil _ _ _, RowOf.nil, s0, by unfold Fr; simp only [World.size_alloc]; omega, by unfold Fr; simp only [World.size_alloc]; omega, by omega, fun g h => by simp [Value.ownBlock] at h, fun _ h => h.elim, fun _ h => h, fun k hk => hk.2, ⟨h1, h2⟩, ⟨h3, h4⟩, by simp, by simp⟩
theorem put_err {F M B : Nat → Prop} (w : World) (b : Nat) (N : NA) (f t : Int) (v : Value) (l : List UInt8) (h : NetX w F M b N) (hf : I64 f) (ht : I64 t) (hv : Bytes w B v l) (hl : l.length ≤ 9223372036854775807) (k : Nat) (hk : N.putErr f t l.length = k) (h0 : k ≠ 0) :
    Calls Try.prog 11 #[.pointer (some ⟨b, 0, none⟩), .int .i64 f, .int .i64 t, v] w fun e w' => e = .returned (.tuple #[.int .i64 0, .int .i64 (k : Int)]) ∧ Ext w w' := by
  obtain ⟨a, c, rfl⟩ := hv.len
  have HN := Lib.hid h
  have HK := Lib.hid hk
  clear h hk hv
  have hz : ((k : Int) != 0) = true := by simp; omega
  go_enter Try.func11, Try.ntmps11
  go_wp2_with fail
  have bx0 := (((((Box.new w 23 [.pointer (some ⟨b, 0, none⟩)]).alloc (Obj.cells #[.int .i64 f] 3)).alloc (Obj.cells #[.int .i64 t] 3)).alloc (Obj.cells #[.slice a l.length c] 30)).alloc (Obj.cells #[.func (.func 32) #[.pointer (some ⟨b, 0, none⟩)] #[], .int .i64 1, .func (.func 33) #[] #[.pointer (some ⟨w.heap.size, 0, none⟩), .pointer (some ⟨w.heap.size + 1, 0, none⟩), .pointer (some ⟨w.heap.size + 1 + 1, 0, none⟩)], .int .i64 2, .func (.func 35) #[] #[.pointer (some ⟨w.heap.size + 1 + 1 + 1, 0, none⟩)], .int .i64 3, .func (.func 36) #[] #[.pointer (some ⟨w.heap.size, 0, none⟩), .pointer (some ⟨w.heap.size + 1, 0, none⟩), .pointer (some ⟨w.heap.size + 1 + 1, 0, none⟩)], .int .i64 210, .func (.func 37) #[] #[.pointer (some ⟨w.heap.size, 0, none⟩)], .int .i64 211] 76))
  have bx1 := ((((Box.new (w.alloc (Obj.cells #[.pointer (some ⟨b, 0, none⟩)] 23)) 3 [.int .i64 f]).alloc (Obj.cells #[.int .i64 t] 3)).alloc (Obj.cells #[.slice a l.length c] 30)).alloc (Obj.cells #[.func (.func 32) #[.pointer (some ⟨b, 0, none⟩)] #[], .int .i64 1, .func (.func 33) #[] #[.pointer (some ⟨w.heap.size, 0, none⟩), .pointer (some ⟨w.heap.size + 1, 0, none⟩), .pointer (some ⟨w.heap.size + 1 + 1, 0, none⟩)], .int .i64 2, .func (.func 35) #[] #[.pointer (some ⟨w.heap.size + 1 + 1 + 1, 0, none⟩)], .int .i64 3, .func (.func 36) #[] #[.pointer (some ⟨w.heap.size, 0, none⟩), .pointer (some ⟨w.heap.size + 1, 0, none⟩), .pointer (some ⟨w.heap.size + 1 + 1, 0, none⟩)], .int .i64 210, .func (.func 37) #[] #[.pointer (some ⟨w.heap.size, 0, none⟩)], .int .i64 211] 76))
  have bx2 := (((Box.new ((w.alloc (Obj.cells #[.pointer (some ⟨b, 0, none⟩)] 23)).alloc (Obj.cells #[.int .i64 f] 3)) 3 [.int .i64 t]).alloc (Obj.cells #[.slice a l.length c] 30)).alloc (Obj.cells #[.func (.func 32) #[.pointer (some ⟨b, 0, none⟩)] #[], .int .i64 1, .func (.func 33) #[] #[.pointer (some ⟨w.heap.size, 0, none⟩), .pointer (some ⟨w.heap.size + 1, 0, none⟩), .pointer (some ⟨w.heap.size + 1 + 1, 0, none⟩)], .int .i64 2, .func (.func 35) #[] #[.pointer (some ⟨w.heap.size + 1 + 1 + 1, 0, none⟩)], .int .i64 3, .func (.func 36) #[] #[.pointer (some ⟨w.heap.size, 0, none⟩), .pointer (some ⟨w.heap.size + 1, 0, none⟩), .pointer (some ⟨w.heap.size + 1 + 1, 0, none⟩)], .int .i64 210, .func (.func 37) #[] #[.pointer (some ⟨w.heap.size, 0, none⟩)], .int .i64 211] 76))
  have bx3 := ((Box.new (((w.alloc (Obj.cells #[.pointer (some ⟨b, 0, none⟩)] 23)).alloc (Obj.cells #[.int .i64 f] 3)).alloc (Obj.cells #[.int .i64 t] 3)) 30 [.slice a l.length c]).alloc (Obj.cells #[.func (.func 32) #[.pointer (some ⟨b, 0, none⟩)] #[], .int .i64 1, .func (.func 33) #[] #[.pointer (some ⟨w.heap.size, 0, none⟩), .pointer (some ⟨w.heap.size + 1, 0, none⟩), .pointer (some ⟨w.heap.size + 1 + 1, 0, none⟩)], .int .i64 2, .func (.func 35) #[] #[.pointer (some ⟨w.heap.size + 1 + 1 + 1, 0, none⟩)], .int .i64 3, .func (.func 36) #[] #[.pointer (some ⟨w.heap.size, 0, none⟩), .pointer (some ⟨w.heap.size + 1, 0, none⟩), .pointer (some ⟨w.heap.size + 1 + 1, 0, none⟩)], .int .i64 210, .func (.func 37) #[] #[.pointer (some ⟨w.heap.size, 0, none⟩)], .int .i64 211] 76))
  have bx4 := (Box.new ((((w.alloc (Obj.cells #[.pointer (some ⟨b, 0, none⟩)] 23)).alloc (Obj.cells #[.int .i64 f] 3)).alloc (Obj.cells #[.int .i64 t] 3)).alloc (Obj.cells #[.slice a l.length c] 30)) 76 [.func (.func 32) #[.pointer (some ⟨b, 0, none⟩)] #[], .int .i64 1, .func (.func 33) #[] #[.pointer (some ⟨w.heap.size, 0, none⟩), .pointer (some ⟨w.heap.size + 1, 0, none⟩), .pointer (some ⟨w.heap.size + 1 + 1, 0, none⟩)], .int .i64 2, .func (.func 35) #[] #[.pointer (some ⟨w.heap.size + 1 + 1 + 1, 0, none⟩)], .int .i64 3, .func (.func 36) #[] #[.pointer (some ⟨w.heap.size, 0, none⟩), .pointer (some ⟨w.heap.size + 1, 0, none⟩), .pointer (some ⟨w.heap.size + 1 + 1, 0, none⟩)], .int .i64 210, .func (.func 37) #[] #[.pointer (some ⟨w.heap.size, 0, none⟩)], .int .i64 211])
  have ex : Ext w (((((w.alloc (Obj.cells #[.pointer (some ⟨b, 0, none⟩)] 23)).alloc (Obj.cells #[.int .i64 f] 3)).alloc (Obj.cells #[.int .i64 t] 3)).alloc (Obj.cells #[.slice a l.length c] 30)).alloc (Obj.cells #[.func (.func 32) #[.pointer (some ⟨b, 0, none⟩)] #[], .int .i64 1, .func (.func 33) #[] #[.pointer (some ⟨w.heap.size, 0, none⟩), .pointer (some ⟨w.heap.size + 1, 0, none⟩), .pointer (some ⟨w.heap.size + 1 + 1, 0, none⟩)], .int .i64 2, .func (.func 35) #[] #[.pointer (some ⟨w.heap.size + 1 + 1 + 1, 0, none⟩)], .int .i64 3, .func (.func 36) #[] #[.pointer (some ⟨w.heap.size, 0, none⟩), .pointer (some ⟨w.heap.size + 1, 0, none⟩), .pointer (some ⟨w.heap.size + 1 + 1, 0, none⟩)], .int .i64 210, .func (.func 37) #[] #[.pointer (some ⟨w.heap.size, 0, none⟩)], .int .i64 211] 76)) := ((((((Keeps.refl NoB w).alloc _).alloc _).alloc _).alloc _).alloc _)
  have sx : (((((w.alloc (Obj.cells #[.pointer (some ⟨b, 0, none⟩)] 23)).alloc (Obj.cells #[.int .i64 f] 3)).alloc (Obj.cells #[.int .i64 t] 3)).alloc (Obj.cells #[.slice a l.length c] 30)).alloc (Obj.cells #[.func (.func 32) #[.pointer (some ⟨b, 0, none⟩)] #[], .int .i64 1, .func (.func 33) #[] #[.pointer (some ⟨w.heap.size, 0, none⟩), .pointer (some ⟨w.heap.size + 1, 0, none⟩), .pointer (some ⟨w.heap.size + 1 + 1, 0, none⟩)], .int .i64 2, .func (.func 35) #[] #[.pointer (some ⟨w.heap.size + 1 + 1 + 1, 0, none⟩)], .int .i64 3, .func (.func 36) #[] #[.pointer (some ⟨w.heap.size, 0, none⟩), .pointer (some ⟨w.heap.size + 1, 0, none⟩), .pointer (some ⟨w.heap.size + 1 + 1, 0, none⟩)], .int .i64 210, .func (.func 37) #[] #[.pointer (some ⟨w.heap.size, 0, none⟩)], .int .i64 211] 76)).heap.size = w.heap.size + 5 := by simp
  simp only [World.size_alloc] at bx1 bx2 bx3 bx4
  generalize (((((w.alloc (Obj.cells #[.pointer (some ⟨b, 0, none⟩)] 23)).alloc (Obj.cells #[.int .i64 f] 3)).alloc (Obj.cells #[.int .i64 t] 3)).alloc (Obj.cells #[.slice a l.length c] 30)).alloc (Obj.cells #[.func (.func 32) #[.pointer (some ⟨b, 0, none⟩)] #[], .int .i64 1, .func (.func 33) #[] #[.pointer (some ⟨w.heap.size, 0, none⟩), .pointer (some ⟨w.heap.size + 1, 0, none⟩), .pointer (some ⟨w.heap.size + 1 + 1, 0, none⟩)], .int .i64 2, .func (.func 35) #[] #[.pointer (some ⟨w.heap.size + 1 + 1 + 1, 0, none⟩)], .int .i64 3, .func (.func 36) #[] #[.pointer (some ⟨w.heap.size, 0, none⟩), .pointer (some ⟨w.heap.size + 1, 0, none⟩), .pointer (some ⟨w.heap.size + 1 + 1, 0, none⟩)], .int .i64 210, .func (.func 37) #[] #[.pointer (some ⟨w.heap.size, 0, none⟩)], .int .i64 211] 76)) = w0 at bx0 bx1 bx2 bx3 bx4 ex sx ⊢
  have Sx := Lib.hid sx
  clear sx
  have HE := Lib.hid ex
  refine (first_put (w.heap.size + 1 + 1 + 1 + 1) (⟨HN.out.ext ex, bx0, bx1, bx2, bx3⟩ : PutIn w0 F M b _ _ _ _ f t a l.length c N) hf ht hl bx4).mono ?_
  rintro e w1 ⟨rfl, hE⟩
  rw [HK.out]
  have HE1 := Lib.hid (HE.out.ext hE)
  clear ex bx0 bx1 bx2 bx3 bx4 hE
  go_wp2_with fail
  go_ret2
  exact ⟨rfl, HE1.out⟩
def NA.put (N : NA) (f t : Int) (l : List UInt8) : NA := { N with came := N.came + 1, l := N.l ++ [⟨N.came, f, t, l⟩] }
theorem endB_iff (N : NA) (i : Int) : N.endB i = true ↔ 0 ≤ i ∧ i < N.ends := by unfold NA.endB; simp
theorem NA.putErr_zero {N : NA} {f t : Int} {n : Nat} (h : N.putErr f t n = 0) : (0 ≤ f ∧ f < N.ends) ∧ (0 ≤ t ∧ t < N.ends) ∧ n ≤ 8192 ∧ (f, t) ∉ N.downs ∧ N.l.length < N.most := by
  unfold NA.putErr at h
  split at h
  · cases h
  rename_i h1
  split at h
  · cases h
  rename_i h2
  split at h
  · cases h
  rename_i h3
  split at h
  · cases h
  rename_i h4
  have h1' : (N.endB f && N.endB t) = true := by simpa using h1
  rw [Bool.and_eq_true] at h1'
  exact ⟨(endB_iff N f).1 h1'.1, (endB_iff N t).1 h1'.2, by omega, h3, by omega⟩
set_option maxHeartbeats 2000000 in
theorem put_ok {F M B : Nat → Prop} (w : World) (b : Nat) (N : NA) (f t : Int) (v : Value) (l : List UInt8) (h : NetX w F M b N) (hf : I64 f) (ht : I64 t) (hv : Bytes w B v l) (hk : N.putErr f t l.length = 0) (hc : N.came ≤ 1000000) :
    Calls Try.prog 11 #[.pointer (some ⟨b, 0, none⟩), .int .i64 f, .int .i64 t, v] w fun e w' => ∃ F' M', e = .returned (.tuple #[.int .i64 (N.came : Int), .int .i64 0]) ∧ NetX w' F' M' b (N.put f t l) ∧ Step w w' F M F' M' := by
  obtain ⟨hef, het, hl, hd, hroom⟩ := NA.putErr_zero hk
  obtain ⟨a, c, rfl⟩ := hv.len
  have HN := Lib.hid h
  have HK := Lib.hid hk
  have HV := Lib.hid hv
  have HD := Lib.hid hd
  have hbw := h.lt
  clear h hk hv hd
  go_enter Try.func11, Try.ntmps11
  go_wp2_with fail
  have bx0 := (((((Box.new w 23 [.pointer (some ⟨b, 0, none⟩)]).alloc (Obj.cells #[.int .i64 f] 3)).alloc (Obj.cells #[.int .i64 t] 3)).alloc (Obj.cells #[.slice a l.length c] 30)).alloc (Obj.cells #[.func (.func 32) #[.pointer (some ⟨b, 0, none⟩)] #[], .int .i64 1, .func (.func 33) #[] #[.pointer (some ⟨w.heap.size, 0, none⟩), .pointer (some ⟨w.heap.size + 1, 0, none⟩), .pointer (some ⟨w.heap.size + 1 + 1, 0, none⟩)], .int .i64 2, .func (.func 35) #[] #[.pointer (some ⟨w.heap.size + 1 + 1 + 1, 0, none⟩)], .int .i64 3, .func (.func 36) #[] #[.pointer (some ⟨w.heap.size, 0, none⟩), .pointer (some ⟨w.heap.size + 1, 0, none⟩), .pointer (some ⟨w.heap.size + 1 + 1, 0, none⟩)], .int .i64 210, .func (.func 37) #[] #[.pointer (some ⟨w.heap.size, 0, none⟩)], .int .i64 211] 76))
  have bx1 := ((((Box.new (w.alloc (Obj.cells #[.pointer (some ⟨b, 0, none⟩)] 23)) 3 [.int .i64 f]).alloc (Obj.cells #[.int .i64 t] 3)).alloc (Obj.cells #[.slice a l.length c] 30)).alloc (Obj.cells #[.func (.func 32) #[.pointer (some ⟨b, 0, none⟩)] #[], .int .i64 1, .func (.func 33) #[] #[.pointer (some ⟨w.heap.size, 0, none⟩), .pointer (some ⟨w.heap.size + 1, 0, none⟩), .pointer (some ⟨w.heap.size + 1 + 1, 0, none⟩)], .int .i64 2, .func (.func 35) #[] #[.pointer (some ⟨w.heap.size + 1 + 1 + 1, 0, none⟩)], .int .i64 3, .func (.func 36) #[] #[.pointer (some ⟨w.heap.size, 0, none⟩), .pointer (some ⟨w.heap.size + 1, 0, none⟩), .pointer (some ⟨w.heap.size + 1 + 1, 0, none⟩)], .int .i64 210, .func (.func 37) #[] #[.pointer (some ⟨w.heap.size, 0, none⟩)], .int .i64 211] 76))
  have bx2 := (((Box.new ((w.alloc (Obj.cells #[.pointer (some ⟨b, 0, none⟩)] 23)).alloc (Obj.cells #[.int .i64 f] 3)) 3 [.int .i64 t]).alloc (Obj.cells #[.slice a l.length c] 30)).alloc (Obj.cells #[.func (.func 32) #[.pointer (some ⟨b, 0, none⟩)] #[], .int .i64 1, .func (.func 33) #[] #[.pointer (some ⟨w.heap.size, 0, none⟩), .pointer (some ⟨w.heap.size + 1, 0, none⟩), .pointer (some ⟨w.heap.size + 1 + 1, 0, none⟩)], .int .i64 2, .func (.func 35) #[] #[.pointer (some ⟨w.heap.size + 1 + 1 + 1, 0, none⟩)], .int .i64 3, .func (.func 36) #[] #[.pointer (some ⟨w.heap.size, 0, none⟩), .pointer (some ⟨w.heap.size + 1, 0, none⟩), .pointer (some ⟨w.heap.size + 1 + 1, 0, none⟩)], .int .i64 210, .func (.func 37) #[] #[.pointer (some ⟨w.heap.size, 0, none⟩)], .int .i64 211] 76))
  have bx3 := ((Box.new (((w.alloc (Obj.cells #[.pointer (some ⟨b, 0, none⟩)] 23)).alloc (Obj.cells #[.int .i64 f] 3)).alloc (Obj.cells #[.int .i64 t] 3)) 30 [.slice a l.length c]).alloc (Obj.cells #[.func (.func 32) #[.pointer (some ⟨b, 0, none⟩)] #[], .int .i64 1, .func (.func 33) #[] #[.pointer (some ⟨w.heap.size, 0, none⟩), .pointer (some ⟨w.heap.size + 1, 0, none⟩), .pointer (some ⟨w.heap.size + 1 + 1, 0, none⟩)], .int .i64 2, .func (.func 35) #[] #[.pointer (some ⟨w.heap.size + 1 + 1 + 1, 0, none⟩)], .int .i64 3, .func (.func 36) #[] #[.pointer (some ⟨w.heap.size, 0, none⟩), .pointer (some ⟨w.heap.size + 1, 0, none⟩), .pointer (some ⟨w.heap.size + 1 + 1, 0, none⟩)], .int .i64 210, .func (.func 37) #[] #[.pointer (some ⟨w.heap.size, 0, none⟩)], .int .i64 211] 76))
  have bx4 := (Box.new ((((w.alloc (Obj.cells #[.pointer (some ⟨b, 0, none⟩)] 23)).alloc (Obj.cells #[.int .i64 f] 3)).alloc (Obj.cells #[.int .i64 t] 3)).alloc (Obj.cells #[.slice a l.length c] 30)) 76 [.func (.func 32) #[.pointer (some ⟨b, 0, none⟩)] #[], .int .i64 1, .func (.func 33) #[] #[.pointer (some ⟨w.heap.size, 0, none⟩), .pointer (some ⟨w.heap.size + 1, 0, none⟩), .pointer (some ⟨w.heap.size + 1 + 1, 0, none⟩)], .int .i64 2, .func (.func 35) #[] #[.pointer (some ⟨w.heap.size + 1 + 1 + 1, 0, none⟩)], .int .i64 3, .func (.func 36) #[] #[.pointer (some ⟨w.heap.size, 0, none⟩), .pointer (some ⟨w.heap.size + 1, 0, none⟩), .pointer (some ⟨w.heap.size + 1 + 1, 0, none⟩)], .int .i64 210, .func (.func 37) #[] #[.pointer (some ⟨w.heap.size, 0, none⟩)], .int .i64 211])
  have ex : Ext w (((((w.alloc (Obj.cells #[.pointer (some ⟨b, 0, none⟩)] 23)).alloc (Obj.cells #[.int .i64 f] 3)).alloc (Obj.cells #[.int .i64 t] 3)).alloc (Obj.cells #[.slice a l.length c] 30)).alloc (Obj.cells #[.func (.func 32) #[.pointer (some ⟨b, 0, none⟩)] #[], .int .i64 1, .func (.func 33) #[] #[.pointer (some ⟨w.heap.size, 0, none⟩), .pointer (some ⟨w.heap.size + 1, 0, none⟩), .pointer (some ⟨w.heap.size + 1 + 1, 0, none⟩)], .int .i64 2, .func (.func 35) #[] #[.pointer (some ⟨w.heap.size + 1 + 1 + 1, 0, none⟩)], .int .i64 3, .func (.func 36) #[] #[.pointer (some ⟨w.heap.size, 0, none⟩), .pointer (some ⟨w.heap.size + 1, 0, none⟩), .pointer (some ⟨w.heap.size + 1 + 1, 0, none⟩)], .int .i64 210, .func (.func 37) #[] #[.pointer (some ⟨w.heap.size, 0, none⟩)], .int .i64 211] 76)) := ((((((Keeps.refl NoB w).alloc _).alloc _).alloc _).alloc _).alloc _)
  have sx : (((((w.alloc (Obj.cells #[.pointer (some ⟨b, 0, none⟩)] 23)).alloc (Obj.cells #[.int .i64 f] 3)).alloc (Obj.cells #[.int .i64 t] 3)).alloc (Obj.cells #[.slice a l.length c] 30)).alloc (Obj.cells #[.func (.func 32) #[.pointer (some ⟨b, 0, none⟩)] #[], .int .i64 1, .func (.func 33) #[] #[.pointer (some ⟨w.heap.size, 0, none⟩), .pointer (some ⟨w.heap.size + 1, 0, none⟩), .pointer (some ⟨w.heap.size + 1 + 1, 0, none⟩)], .int .i64 2, .func (.func 35) #[] #[.pointer (some ⟨w.heap.size + 1 + 1 + 1, 0, none⟩)], .int .i64 3, .func (.func 36) #[] #[.pointer (some ⟨w.heap.size, 0, none⟩), .pointer (some ⟨w.heap.size + 1, 0, none⟩), .pointer (some ⟨w.heap.size + 1 + 1, 0, none⟩)], .int .i64 210, .func (.func 37) #[] #[.pointer (some ⟨w.heap.size, 0, none⟩)], .int .i64 211] 76)).heap.size = w.heap.size + 5 := by simp
  simp only [World.size_alloc] at bx1 bx2 bx3 bx4
  generalize (((((w.alloc (Obj.cells #[.pointer (some ⟨b, 0, none⟩)] 23)).alloc (Obj.cells #[.int .i64 f] 3)).alloc (Obj.cells #[.int .i64 t] 3)).alloc (Obj.cells #[.slice a l.length c] 30)).alloc (Obj.cells #[.func (.func 32) #[.pointer (some ⟨b, 0, none⟩)] #[], .int .i64 1, .func (.func 33) #[] #[.pointer (some ⟨w.heap.size, 0, none⟩), .pointer (some ⟨w.heap.size + 1, 0, none⟩), .pointer (some ⟨w.heap.size + 1 + 1, 0, none⟩)], .int .i64 2, .func (.func 35) #[] #[.pointer (some ⟨w.heap.size + 1 + 1 + 1, 0, none⟩)], .int .i64 3, .func (.func 36) #[] #[.pointer (some ⟨w.heap.size, 0, none⟩), .pointer (some ⟨w.heap.size + 1, 0, none⟩), .pointer (some ⟨w.heap.size + 1 + 1, 0, none⟩)], .int .i64 210, .func (.func 37) #[] #[.pointer (some ⟨w.heap.size, 0, none⟩)], .int .i64 211] 76)) = w0 at bx0 bx1 bx2 bx3 bx4 ex sx ⊢
  have Sx := Lib.hid sx
  clear sx
  have HE := Lib.hid ex
  have hs0 := Sx.out
  refine (first_put (w.heap.size + 1 + 1 + 1 + 1) (⟨HN.out.ext ex, bx0, bx1, bx2, bx3⟩ : PutIn w0 F M b _ _ _ _ f t a l.length c N) hf ht (by omega) bx4).mono ?_
  rintro e w1 ⟨rfl, hE⟩
  rw [HK.out]
  have HE1 := Lib.hid (HE.out.ext hE)
  have H0 := Lib.hid (bx0.ext hE)
  have H1 := Lib.hid (bx1.ext hE)
  have H2 := Lib.hid (bx2.ext hE)
  have H3 := Lib.hid (bx3.ext hE)
  have h01 := hE.size
  clear ex bx0 bx1 bx2 bx3 bx4 hE
  obtain ⟨A, m, vs, cs, hat⟩ := HN.out.ext HE1.out
  obtain ⟨ap, cp, rfl⟩ := hat.win.len
  have HAT := Lib.hid hat
  have HB := Lib.hid hat.box
  have hbelow := HN.out.below
  have nown : ∀ k, w.heap.size ≤ k → ¬ Own (.slice ap N.l.length cp) k := fun k hk h2 => by have := hbelow k (hat.fM k (hat.fv k h2).1); omega
  have n0 := nown w.heap.size (by omega)
  have n1 := nown (w.heap.size + 1) (by omega)
  have n2 := nown (w.heap.size + 1 + 1) (by omega)
  have n3 := nown (w.heap.size + 1 + 1 + 1) (by omega)
  have nb : ¬ Own (.slice ap N.l.length cp) b := fun h2 => (hat.fv b h2).2.1 rfl
  have nm : ¬ Own (.slice ap N.l.length cp) m := fun h2 => (hat.fv m h2).2.2 rfl
  have NOWN := Lib.hid nown
  have HBEL := Lib.hid hbelow
  clear hat nown hbelow
  obtain ⟨cH0, zH0⟩ := H0.out.reads
  have lH0 := H0.out.lt
  obtain ⟨cH1, zH1⟩ := H1.out.reads
  have lH1 := H1.out.lt
  obtain ⟨cH2, zH2⟩ := H2.out.reads
  have lH2 := H2.out.lt
  obtain ⟨cH3, zH3⟩ := H3.out.reads
  have lH3 := H3.out.lt
  obtain ⟨cHB, zHB⟩ := HB.out.reads
  have lHB := HB.out.lt
  go_wp2_with fail
  have hE0 : Keeps (Own (.slice ap N.l.length cp)) w1 w1.drew := (Keeps.refl _ _).drew
  refine wp_region_plan [(1, 0), (1, 1), (0, 2), (0, 3), (1, 4), (1, 5), (0, 6), (0, 7), (1, 8), (1, 9), (1, 10), (3, 11), (2, 12), (0, 13), (0, 14), (2, 15), (2, 16), (0, 17), (0, 18)] [0, 1, 4, 5, 8, 9, 10] [12, 15, 16, 19] [19] (ClsK (Own (.slice ap N.l.length cp)) w1) (by kernel_rfl) (by kernel_rfl) (by kernel_rfl) rfl rfl (ClsK.of hE0) (fun _ _ _ d _ h => by cases d <;> exact h) ?_; simp only [planL, List.getElem?_toArray, List.getElem?_cons_succ, List.getElem?_cons_zero]
  refine plan_load rfl (fun K hK => quiet_runK (v := ?_) (fun W => ?_) (hK _ ?_)); rotate_left; (go_simp <;> with_reducible rfl); clear hK K; simp only [Act.put, List.setIfInBounds_toArray, List.set_cons_zero, List.set_cons_succ]
  refine plan_load rfl (fun K hK => quiet_runK (v := ?_) (fun W => ?_) (hK _ ?_)); rotate_left; (go_simp <;> with_reducible rfl); clear hK K; simp only [Act.put, List.setIfInBounds_toArray, List.set_cons_zero, List.set_cons_succ]
  refine plan_pure rfl (fun K hK => quiet_run (v := ?_) (fun W _ => ?_) (hK _ ?_)); rotate_left; (go_simp <;> with_reducible rfl); clear hK K; simp only [Act.put, List.setIfInBounds_toArray, List.set_cons_zero, List.set_cons_succ]
  refine plan_pure rfl (fun K hK => quiet_run (v := ?_) (fun W _ => ?_) (hK _ ?_)); rotate_left; (go_simp <;> with_reducible rfl); clear hK K; simp only [Act.put, List.setIfInBounds_toArray, List.set_cons_zero, List.set_cons_succ]
  refine plan_load rfl (fun K hK => quiet_runK (v := ?_) (fun W => ?_) (hK _ ?_)); rotate_left; (go_simp <;> with_reducible rfl); clear hK K; simp only [Act.put, List.setIfInBounds_toArray, List.set_cons_zero, List.set_cons_succ]
  refine plan_load rfl (fun K hK => quiet_runK (v := ?_) (fun W => ?_) (hK _ ?_)); rotate_left; (go_simp <;> with_reducible rfl); clear hK K; simp only [Act.put, List.setIfInBounds_toArray, List.set_cons_zero, List.set_cons_succ]
  refine plan_pure rfl (fun K hK => quiet_run (v := ?_) (fun W _ => ?_) (hK _ ?_)); rotate_left; (go_simp <;> with_reducible rfl); clear hK K; simp only [Act.put, List.setIfInBounds_toArray, List.set_cons_zero, List.set_cons_succ]
  refine plan_pure rfl (fun K hK => quiet_run (v := ?_) (fun W _ => ?_) (hK _ ?_)); rotate_left; (go_simp <;> with_reducible rfl); clear hK K; simp only [Act.put, List.setIfInBounds_toArray, List.set_cons_zero, List.set_cons_succ]
  refine plan_load rfl (fun K hK => quiet_runK (v := ?_) (fun W => ?_) (hK _ ?_)); rotate_left; (go_simp <;> with_reducible rfl); clear hK K; simp only [Act.put, List.setIfInBounds_toArray, List.set_cons_zero, List.set_cons_succ]
  refine plan_load rfl (fun K hK => quiet_runK (v := ?_) (fun W => ?_) (hK _ ?_)); rotate_left; (go_simp <;> with_reducible rfl); clear hK K; simp only [Act.put, List.setIfInBounds_toArray, List.set_cons_zero, List.set_cons_succ]
  refine plan_load rfl (fun K hK => quiet_runK (v := ?_) (fun W => ?_) (hK _ ?_)); rotate_left; (go_simp <;> with_reducible rfl); clear hK K; simp only [Act.put, List.setIfInBounds_toArray, List.set_cons_zero, List.set_cons_succ]
  refine plan_exact rfl (fun K hK => quiet_runX (v := ?_) ?_ (hK _ ?_)); rotate_left; (go_simp <;> with_reducible rfl); clear hK K; simp only [Act.put, List.setIfInBounds_toArray, List.set_cons_zero, List.set_cons_succ]
  refine plan_does rfl (fun K hK => ?_)
  go_wp2_with fail
  refine (clone_bytes _ _ l (HV.out.ext (HE1.out.drew)) (by omega)).mono ?_
  rintro e w2 ⟨v', rfl, hb', hE2, -⟩
  obtain ⟨a2, c2, rfl⟩ := hb'.len
  have hX2 : Ext w1 w2 := ((Keeps.refl NoB w1).drew).ext hE2
  have hK2 : Keeps (Own (.slice ap N.l.length cp)) w1 w2 := Ext.keeps hX2
  have HB' := Lib.hid hb'
  clear hb' hE2
  refine hK _ _ ⟨ClsK.of (by assumption), ?_⟩; clear hK K; try simp only [Act.put, List.setIfInBounds_toArray, List.set_cons_zero, List.set_cons_succ]
  refine plan_pure rfl (fun K hK => quiet_run (v := ?_) (fun W _ => ?_) (hK _ ?_)); rotate_left; (go_simp <;> with_reducible rfl); clear hK K; simp only [Act.put, List.setIfInBounds_toArray, List.set_cons_zero, List.set_cons_succ]
  refine plan_pure rfl (fun K hK => quiet_run (v := ?_) (fun W _ => ?_) (hK _ ?_)); rotate_left; (go_simp <;> with_reducible rfl); clear hK K; simp only [Act.put, List.setIfInBounds_toArray, List.set_cons_zero, List.set_cons_succ]
  refine plan_does rfl (fun K hK => ?_)
  go_wp2_with fail
  refine ⟨ClsK.of (by repeat (first | assumption | exact Keeps.refl _ _ | refine Keeps.alloc ?_ _ | refine Keeps.setOne ?_ _ _ | refine Keeps.setCell ?_ _ _ (.inl (by first | rfl | exact .inl rfl | exact .inr rfl | omega)) | refine Keeps.drew ?_)), ?_⟩; try simp only [Act.put, List.setIfInBounds_toArray, List.set_cons_zero, List.set_cons_succ]
  refine plan_does rfl (fun K hK => ?_)
  have hX3 : Ext w1 (w2.alloc (Obj.cells #[.int .i64 (N.came : Int), .int .i64 f, .int .i64 t, .slice a2 l.length c2] 81)) := hX2.alloc _
  have h12 := hX2.size
  have by0 := Box.new w2 81 [.int .i64 (N.came : Int), .int .i64 f, .int .i64 t, .slice a2 l.length c2]
  obtain ⟨v3, w3, hr3, hwin3, hk3, ho3⟩ := append_ways (A := fun k => A k ∨ Fr w1 w2 k) _ 0 (.slice ap N.l.length cp) cs N.l 69 (HAT.out.win.ext hX3) (.slice (some ⟨w2.heap.size, 0, none⟩) 1 1) [.int .i64 (N.came : Int), .int .i64 f, .int .i64 t, .slice a2 l.length c2] [⟨N.came, f, t, l⟩] (Box.src by0 1 1)
    (RowOf.one ⟨_, rfl, (HB'.out.mono fun k hk => Or.inr hk).ext ((Keeps.refl _ _).alloc _)⟩ rfl) (by simp; have := HN.out.m1; omega) (by omega)
  have hK3 : Keeps (Own (.slice ap N.l.length cp)) w1 w3 := (Ext.keeps hX3).trans hk3
  have hrow3 : RowOf 4 (ParEn w3 (fun k => A k ∨ Fr w1 w2 k)) (cs ++ [.int .i64 (N.came : Int), .int .i64 f, .int .i64 t, .slice a2 l.length c2]) (N.l ++ [⟨N.came, f, t, l⟩]) := RowOf.append
    (HAT.out.row.mono fun c p hc => (hc.keeps hK3 (fun k hk h2 => (HAT.out.fa k hk).2 (HAT.out.fM k (HAT.out.fv k h2).1))).mono (fun k hk => .inl hk))
    (RowOf.one ⟨_, rfl, ((HB'.out.mono fun k hk => Or.inr hk).ext ((Keeps.refl _ _).alloc _)).keeps hk3 (fun k hk h2 => by
      rcases hk with hk | hk
      · exact (HAT.out.fa k hk).2 (HAT.out.fM k (HAT.out.fv k h2).1)
      · exact NOWN.out k (by have h9 : w1.heap.size ≤ k := hk.1; have := HE1.out.size; omega) h2)⟩ rfl)
  obtain ⟨a3, c3, rfl⟩ := hwin3.len
  have HW3 := Lib.hid hwin3
  have HR3 := Lib.hid hrow3
  have HO3 := Lib.hid ho3
  have H0' := Lib.hid (H0.out.keeps hK3 n0)
  have HB3 := Lib.hid (HB.out.keeps hK3 nb)
  have HS3 := Lib.hid (HAT.out.dn.keeps hK3 nm)
  have HK3 := Lib.hid hK3
  have HK3b := Lib.hid (show w2.heap.size + 1 ≤ w3.heap.size by have := hk3.size; simp only [World.size_alloc] at this; exact this)
  clear hX3 by0 hwin3 hk3 ho3 hrow3
  refine oper_append_ran _ _ hr3 rfl rfl rfl ?_
  clear hr3
  refine hK _ _ ⟨ClsK.of (by assumption), ?_⟩; clear hK K; try simp only [Act.put, List.setIfInBounds_toArray, List.set_cons_zero, List.set_cons_succ]
  refine plan_pure rfl (fun K hK => quiet_run (v := ?_) (fun W _ => ?_) (hK _ ?_)); rotate_left; (go_simp <;> with_reducible rfl); clear hK K; simp only [Act.put, List.setIfInBounds_toArray, List.set_cons_zero, List.set_cons_succ]
  refine plan_pure rfl (fun K hK => quiet_run (v := ?_) (fun W _ => ?_) (hK _ ?_)); rotate_left; (go_simp <;> with_reducible rfl); clear hK K; simp only [Act.put, List.setIfInBounds_toArray, List.set_cons_zero, List.set_cons_succ]
  refine plan_nil ?_; simp only [tailL, List.filterMap_cons, List.filterMap_nil, List.getElem?_toArray, List.getElem?_cons_succ, List.getElem?_cons_zero]; change wpList _ _ _ (_ :: []) _ _
  clear cH0 zH0 lH0 cH1 zH1 lH1 cH2 zH2 lH2 cH3 zH3 lH3 cHB zHB lHB
  obtain ⟨cH0', zH0'⟩ := H0'.out.reads
  have lH0' := H0'.out.lt
  obtain ⟨cHB3, zHB3⟩ := HB3.out.reads
  have lHB3 := HB3.out.lt
  go_wp2_with fail
  have hkb : Keeps (OneB b) w3 ((w3.setCell ⟨b, 3, none⟩ (.slice a3 (N.l.length + 1) c3)).setCell ⟨b, 2, none⟩ (.int .i64 ((N.came : Int) + 1))) := ((Keeps.refl _ w3).setOne _ _).setOne _ _
  have q1 := (HB3.out.set 3 (.slice a3 (N.l.length + 1) c3)).set 2 (.int .i64 ((N.came : Int) + 1))
  dsimp only [List.set_cons_zero, List.set_cons_succ] at q1
  have hlen : (N.l ++ [(⟨N.came, f, t, l⟩ : Pc)]).length = N.l.length + 1 := by simp
  have hw3 := HW3.out
  have ho3 := HO3.out
  rw [hlen] at hw3 ho3
  have hat := HAT.out
  have hbel := HBEL.out
  have hE1 := HE1.out.size
  have hK3 := HK3.out
  have hs3 := hK3.size
  have h12' := hX2.size
  generalize ((w3.setCell ⟨b, 3, none⟩ (.slice a3 (N.l.length + 1) c3)).setCell ⟨b, 2, none⟩ (.int .i64 ((N.came : Int) + 1))) = w4 at hkb q1 ⊢
  have hs4 := hkb.size
  clear cH0' zH0' lH0' cHB3 zHB3 lHB3
  have hown : ∀ g, Value.ownBlock (.slice a3 (N.l.length + 1) c3) = some g → F g ∨ w1.heap.size ≤ g := fun g hg => by
    rcases ho3 with h | h
    · exact .inl (hat.fv g (h.symm.trans hg)).1
    · rw [h] at hg; injection hg with hg; right; simp at hg; omega
  have hown2 : ∀ g, Value.ownBlock (.slice a3 (N.l.length + 1) c3) = some g → g ≠ b ∧ g ≠ m ∧ g < w3.heap.size := fun g hg => by
    have hlt := (hw3.block g hg).2
    rcases ho3 with h | h
    · exact ⟨(hat.fv g (h.symm.trans hg)).2.1, (hat.fv g (h.symm.trans hg)).2.2, hlt⟩
    · have hmm := hbel m (hat.fM m hat.fm)
      rw [h] at hg; injection hg with hg; simp at hg; exact ⟨by omega, by omega, hlt⟩
  go_ret2
  refine ⟨fun k => F k ∨ Value.ownBlock (.slice a3 (N.l.length + 1) c3) = some k, fun k => M k ∨ Value.ownBlock (.slice a3 (N.l.length + 1) c3) = some k, rfl, ⟨fun k => A k ∨ Fr w1 w2 k, m, .slice a3 (N.l.length + 1) c3, cs ++ [.int .i64 (N.came : Int), .int .i64 f, .int .i64 t, .slice a2 l.length c2], ?_⟩, ?_⟩
  · refine ⟨?_, ?_, ?_, HS3.out.keeps hkb (fun h => hat.bm h.symm), .inl hat.fb, .inl hat.fm, hat.bm, fun g hg => ⟨.inr hg, (hown2 g hg).1, (hown2 g hg).2.1⟩, ?_, ?_, ?_, hat.e1, hat.m1, ?_, ?_⟩
    · show Box w4 b _ [.int .i64 (N.ends : Int), .int .i64 (N.most : Int), .int .i64 ((N.came + 1 : Nat) : Int), _, _]
      rw [Int.natCast_add]; exact q1
    · show Win w4 0 4 _ (N.l ++ [_]).length _
      rw [hlen]
      exact hw3.keeps hkb (fun g hg h => (hown2 g hg).1 h)
    · exact HR3.out.mono fun c p hc => hc.keeps hkb (fun k hk h => by
        obtain rfl : k = b := h
        rcases hk with hk | hk
        · exact (hat.fa _ hk).2 (hat.fM _ hat.fb)
        · have h9 : w1.heap.size ≤ k := hk.1; omega)
    · intro k hk
      rcases hk with hk | hk
      · refine ⟨by have := (hat.fa k hk).1; omega, fun hm => ?_⟩
        rcases hm with hm | hm
        · exact (hat.fa k hk).2 hm
        · rcases hown k hm with h | h
          · exact (hat.fa k hk).2 (hat.fM k h)
          · have := (hat.fa k hk).1; omega
      · have h9 : w1.heap.size ≤ k := hk.1
        have h10 : k < w2.heap.size := hk.2
        have h11 : w2.heap.size + 1 ≤ w3.heap.size := by
          have := HK3b.out
          omega
        refine ⟨by omega, fun hm => ?_⟩
        rcases hm with hm | hm
        · have := hbel k hm; omega
        · rcases ho3 with h | h
          · have := hbel k (hat.fM k (hat.fv k (h.symm.trans hm)).1); omega
          · rw [h] at hm; injection hm with hm; simp at hm; omega
    · intro k hk
      rcases hk with hk | hk
      · exact .inl (hat.fM k hk)
      · exact .inr hk
    · intro k hk
      rcases hk with hk | hk
      · have := hbel k hk; omega
      · have := (hown2 k hk).2.2; omega
    · show (N.l ++ [_]).length ≤ N.most
      rw [hlen]; omega
    · intro p hp
      rcases List.mem_append.1 hp with hp | hp
      · exact hat.ok p hp
      · obtain rfl := List.mem_singleton.1 hp
        exact ⟨hl, hef, het⟩
  · refine ⟨?_, ?_, ?_, fun k hk => .inl hk⟩
    · refine ((Ext.keeps HE1.out : Keeps F w w1).then hK3 (fun i hi h => (hat.fv i h).1)).then hkb (fun i hi h => by obtain rfl : i = b := h; exact hat.fb)
    · intro k hk
      rcases hk with hk | hk
      · exact .inl hk
      · rcases hown k hk with h | h
        · exact .inl h
        · exact .inr (by omega)
    · intro k hk
      rcases hk with hk | hk
      · exact .inl hk
      · rcases hown k hk with h | h
        · exact .inl (hat.fM k h)
        · exact .inr (by omega)
end Go.Proofs.Ytdiogipdcpiffaa
