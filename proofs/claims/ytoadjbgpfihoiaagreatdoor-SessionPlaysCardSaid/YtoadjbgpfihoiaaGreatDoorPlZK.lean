/- Texts BackL, SessL, Does, one behind the other. Conditions: as each says. -/
import Derived.Test.YtoadjbgpfihoiaaGreatDoorPlZE
import Derived.Test.YtoadjbgpfihoiaaGreatDoorPlZJ
set_option linter.unusedVariables false
set_option linter.unusedSimpArgs false
set_option maxHeartbeats 8000000
set_option maxRecDepth 100000
namespace Go.Proofs.YtoadjbgpfihoiaaGreatDoor
open Go.RowKit
theorem splitL_app {m : List UInt8} (h : m.length ≤ 4096) (r : List UInt8) : splitL (frameL m ++ r) = (m, (frameL m).length, 0) := by
 have h1 := takeL_num (n := m.length + 4) (by unfold topN; omega) (sealL m ++ r); have h2 := numL_len (m.length + 4); have hf : frameL m ++ r = numL (m.length + 4) ++ (sealL m ++ r) := by unfold frameL; rw [List.append_assoc]
 have hd : (frameL m ++ r).drop (numL (m.length + 4)).length = sealL m ++ r := by rw [hf]; exact List.drop_left' rfl
 have ht : (sealL m ++ r).take (m.length + 4) = sealL m := List.take_left' (sealL_len m); unfold splitL; rw [hf, h1, ← hf]; dsimp only
 rw [if_neg (by omega), if_neg (by omega), Int.toNat_natCast, hd, ht, open_seal, if_neg (by
  rw [hf, List.length_append, List.length_append, sealL_len]; omega)]
 dsimp only; unfold frameL; rw [List.length_append, sealL_len]
theorem num_back (n : Nat) (g : Int) (hg : (n : Int) ≤ g) (ht : n ≤ topN) (r : List UInt8) : (⟨numL n ++ r, 0⟩ : Rdr).num g = (⟨r, 0⟩, n, 0) := by
 have h1 := takeL_num ht r; have h2 := numL_len n; unfold Rdr.num; rw [if_neg (by simp), if_neg (by omega)]; dsimp only; rw [h1]; dsimp only; rw [if_pos ⟨by omega, hg⟩, Int.toNat_natCast, List.drop_left' rfl]
theorem txt_back (s : List UInt8) (hs : s.length ≤ 200) (r : List UInt8) : (⟨txtL s ++ r, 0⟩ : Rdr).txt 200 = (⟨r, 0⟩, s, 0) := by
 have h1 : (⟨txtL s ++ r, 0⟩ : Rdr).num 200 = (⟨s ++ r, 0⟩, s.length, 0) := by
  unfold txtL; rw [List.append_assoc]; exact num_back s.length 200 (by omega) (by unfold topN; omega) _
 unfold Rdr.txt; rw [h1]; dsimp only; rw [if_neg (by simp), if_pos (by rw [List.length_append]; omega), List.drop_left' rfl, List.take_left' rfl]
theorem tru_back (b : Bool) (r : List UInt8) : (⟨truL b ++ r, 0⟩ : Rdr).tru = (⟨r, 0⟩, b, 0) := by
 cases b <;> rfl
theorem entry_back (e : En) (x : Sd) (hx : x.e = En0) (hk : e.kind ≠ 1) (h : enB e = true) (s : Sd) (hs : s.e = e) (r : List UInt8) : Part.entry.take ⟨Part.entry.lay s ++ r, 0⟩ x = (⟨r, 0⟩, { x with e := e }) := by
 obtain ⟨⟨k0, k4⟩, ⟨m0, m15⟩, h4⟩ := enB_bounds hk h
 have hne : e.kind ≠ 4 → e.number = 0 ∧ e.text = [] := fun h5 => by
  unfold enB at h; simp [hk, h5] at h; have h6 := h.2.2; unfold aloneB at h6; have h7 := of_decide_eq_true h6; exact ⟨congrArg En.number h7, congrArg En.text h7⟩
 obtain ⟨k, m, n, t⟩ := e; dsimp only at k0 k4 m0 m15 h4 hne; obtain ⟨k, rfl⟩ := Int.eq_ofNat_of_zero_le k0; obtain ⟨m, rfl⟩ := Int.eq_ofNat_of_zero_le m0; unfold Part.take Part.lay; dsimp only; rw [hs]; dsimp only; rw [Int.toNat_natCast, Int.toNat_natCast]; by_cases h5 : (k : Int) = 4
 · obtain ⟨a1, a2, a3⟩ := h4 h5
   obtain ⟨n, rfl⟩ := Int.eq_ofNat_of_zero_le a1; rw [if_pos h5, Int.toNat_natCast]; rw [show numL k ++ numL m ++ (numL n ++ txtL t) ++ r = numL k ++ (numL m ++ (numL n ++ (txtL t ++ r))) by simp]; rw [num_back k 4 (by omega) (by unfold topN; omega)]; dsimp only; rw [num_back m 15 (by omega) (by unfold topN; omega)]; dsimp only; rw [if_pos (by omega), num_back n 2147483647 (by omega) (by unfold topN; omega)]; dsimp only; rw [txt_back t a3]
 · obtain ⟨b1, b2⟩ := hne h5
   subst b1 b2; rw [if_neg h5]; rw [show numL k ++ numL m ++ [] ++ r = numL k ++ (numL m ++ r) by simp]; rw [num_back k 4 (by omega) (by unfold topN; omega)]; dsimp only; rw [num_back m 15 (by omega) (by unfold topN; omega)]; dsimp only; rw [if_neg (by omega), hx]; rfl
theorem take_back (p : Part) (s x : Sd) (hm : p.may s = true) (hb : bndB s = true) (ht : s.text.length ≤ 200 ∨ p ≠ .said) (hx : x.e = En0) (r : List UInt8) : p.take ⟨p.lay s ++ r, 0⟩ x = (⟨r, 0⟩, p.keep s x) := by
 obtain ⟨g1, g2, g3, g4, g5, g6, g7⟩ := (bnd_iff s).1 hb; cases p
 · unfold Part.take Part.lay Part.keep
   dsimp only; rw [num_back s.member.toNat 15 (by omega) (by unfold topN; omega)]; dsimp only; rw [Int.toNat_of_nonneg g1]
 · unfold Part.take Part.lay Part.keep
   dsimp only; rw [num_back s.number.toNat 2147483647 (by omega) (by unfold topN; omega)]; dsimp only; rw [Int.toNat_of_nonneg g3]
 · unfold Part.take Part.lay Part.keep
   dsimp only; rw [num_back s.index.toNat 2147483647 (by omega) (by unfold topN; omega)]; dsimp only; rw [Int.toNat_of_nonneg g5]
 · unfold Part.take Part.lay Part.keep
   dsimp only; rw [tru_back]
 · unfold Part.take Part.lay Part.keep
   dsimp only; rw [txt_back s.text (ht.resolve_right (fun h => h rfl))]
 · unfold Part.take Part.lay Part.keep
   dsimp only; rw [txt_back s.token g7]
 · unfold Part.may at hm
   simp only [Bool.and_eq_true, decide_eq_true_eq] at hm; exact entry_back s.e x hx hm.1 hm.2 s rfl r
theorem Part.keep_e (p : Part) (s x : Sd) (h : p ≠ .entry) : (p.keep s x).e = x.e := by
 cases p <;> first | rfl | exact absurd rfl h
theorem takeAll_back (s : Sd) (hb : bndB s = true) : ∀ (ps : List Part) (x : Sd) (r : List UInt8), (ps.all fun p => p.may s) = true → (ps.map Part.slot).Nodup → (.said ∈ ps → s.text.length ≤ 200) → (.entry ∈ ps → x.e = En0) → x.e = En0 →
 takeAll ps ⟨(ps.map fun p => p.lay s).flatten ++ r, 0⟩ x = (⟨r, 0⟩, ps.foldl (fun x p => p.keep s x) x)
 | [], x, r, _, _, _, _, _ => rfl
 | p :: ps, x, r, hm, hn, ht, he, hx => by
   rw [List.all_cons, Bool.and_eq_true] at hm; rw [List.map_cons, List.nodup_cons] at hn
   rw [takeAll_cons, List.map_cons, List.flatten_cons, List.append_assoc, take_back p s x hm.1 hb (by
    by_cases h : p = .said
    · exact .inl (ht (by rw [h]; exact List.mem_cons_self ..))
    · exact .inr h) hx]
   dsimp only; by_cases hpe : p = .entry
   · have hne : ∀ q ∈ ps, q ≠ .entry := fun q hq e => hn.1 (by rw [hpe, ← e]; exact List.mem_map_of_mem hq)
     exact takeAll_tail s hb ps (p.keep s x) r hm.2 (fun h => ht (List.mem_cons_of_mem _ h)) hne
   · exact takeAll_back s hb ps (p.keep s x) r hm.2 hn.2 (fun h => ht (List.mem_cons_of_mem _ h)) (fun _ => by rw [p.keep_e s x hpe]; exact hx) (by rw [p.keep_e s x hpe]; exact hx)
where
 takeAll_tail (s : Sd) (hb : bndB s = true) : ∀ (ps : List Part) (x : Sd) (r : List UInt8), (ps.all fun p => p.may s) = true → (.said ∈ ps → s.text.length ≤ 200) → (∀ q ∈ ps, q ≠ .entry) →
  takeAll ps ⟨(ps.map fun p => p.lay s).flatten ++ r, 0⟩ x = (⟨r, 0⟩, ps.foldl (fun x p => p.keep s x) x)
  | [], x, r, _, _, _ => rfl
  | p :: ps, x, r, hm, ht, hne => by
    rw [List.all_cons, Bool.and_eq_true] at hm; have hp := hne p (List.mem_cons_self ..)
    have hte : p.take ⟨p.lay s ++ ((ps.map fun p => p.lay s).flatten ++ r), 0⟩ x = (⟨(ps.map fun p => p.lay s).flatten ++ r, 0⟩, p.keep s x) := by
     have h1 := take_back p s { x with e := En0 } hm.1 hb (by
      by_cases h : p = .said
      · exact .inl (ht (by rw [h]; exact List.mem_cons_self ..))
      · exact .inr h) rfl ((ps.map fun p => p.lay s).flatten ++ r)
     cases p <;> first | exact absurd rfl hp | (unfold Part.take Part.keep at h1 ⊢; dsimp only at h1 ⊢; simp only [Prod.mk.injEq, Sd.mk.injEq, true_and, and_true] at h1 ⊢; exact h1)
    rw [takeAll_cons, List.map_cons, List.flatten_cons, List.append_assoc, hte]; exact takeAll_tail s hb ps (p.keep s x) r hm.2 (fun h => ht (List.mem_cons_of_mem _ h)) (fun q hq => hne q (List.mem_cons_of_mem _ hq))
theorem parse_body (s : Sd) (h : sdB s = true) : parseL (bodyL s) = (s, 0) := by
 have h0 := h; rw [← right_eq] at h0; simp only [Bool.and_eq_true, decide_eq_true_eq] at h0; obtain ⟨⟨⟨hk, hlone⟩, hbd⟩, hown⟩ := h0
 obtain ⟨ps, hps, hall⟩ : ∃ ps, partsOf s.kind = some ps ∧ (ps.all fun p => p.may s) = true := by
  unfold sdB at h; split at h
  · cases h
  · rename_i ps hps
    rw [Bool.and_eq_true] at h; exact ⟨ps, hps, h.2⟩
 have hnd := partsOf_nodup s.kind; rw [hps] at hnd
 have ht : .said ∈ ps → s.text.length ≤ 200 := fun hmem => by
  have := List.all_eq_true.1 hall _ hmem; unfold Part.may at this; exact chk_200 (by simpa using this)
 have hkn : ((s.kind.toNat : Nat) : Int) = s.kind := Int.toNat_of_nonneg (by omega); have hnum := num_back s.kind.toNat 12 (by omega) (by unfold topN; omega) ((ps.map fun p => p.lay s).flatten); have htk := takeAll_back s hbd ps (Sd.of s.kind) [] hall hnd ht (fun _ => rfl) rfl; rw [List.append_nil] at htk
 have hlo : ps.foldl (fun x p => p.keep s x) (Sd.of s.kind) = s := by
  conv => rhs; rw [hlone]
  unfold loneS; rw [hps]; rfl
 rw [hlo] at htk; have hbo : bodyL s = numL s.kind.toNat ++ (ps.map fun p => p.lay s).flatten := by unfold bodyL; rw [hps]; rfl
 unfold parseL; rw [hbo, hnum]; dsimp only; rw [hkn, hps, Option.getD_some, htk]; rw [if_pos ⟨rfl, rfl, rfl, h⟩]
theorem readL_app (s : Sd) (h : sdB s = true) (r : List UInt8) : readL (frameL (bodyL s) ++ r) = (s, (frameL (bodyL s)).length, 0) := by
 have hb := body_len s h; have h1 := splitL_app (m := bodyL s) (by omega) r
 have h2 : (frameL (bodyL s)).length ≠ 0 := by
  have := numL_len ((bodyL s).length + 4); unfold frameL; rw [List.length_append]; omega
 unfold readL; rw [h1]; dsimp only; rw [if_neg (fun g => g.elim (fun g => g rfl) h2), parse_body s h, if_neg (fun g => g rfl)]
end Go.Proofs.YtoadjbgpfihoiaaGreatDoor
section
namespace Go.Proofs.YtoadjbgpfihoiaaGreatDoor
open Go.RowKit
structure Ss where
 member : Int
 number : Int
 next : Int
 sent : Int
 acked : Int
 heard : Int
 live : Bool
 closed : Bool
 wait : Int
 ring : AR
 bye : Option (List UInt8)
def farN : Int := 4611686018427387904
def lineS (i : Int) (e : En) (t : List UInt8) : Sd := { Sd.of 9 with index := i, e := e, token := t }
def byeS (n : Int) : Sd := { Sd.of 12 with number := n }
abbrev rawS (s : Sd) : List UInt8 := frameL (bodyL s)
def newOk (member number fr most wait now : Int) : Bool :=
 decide (1 ≤ most ∧ most ≤ 64) && decide (0 ≤ member ∧ member ≤ 15) && decide (0 ≤ number ∧ number ≤ 2147483647) && decide (0 ≤ fr ∧ fr ≤ 2147483647) && decide (1 ≤ wait ∧ wait ≤ 1000000) && decide (0 ≤ now ∧ now ≤ farN)
abbrev newS (member number fr : Int) (most : Nat) (wait now : Int) : Ss := ⟨member, number, fr, fr, fr, now, false, false, wait, ⟨most, 0, []⟩, none⟩
namespace Ss
def offer (s : Ss) (i : Int) (e : En) (t : List UInt8) : Ss × Int :=
 if sdB (lineS i e t) = false then (s, 2) else if s.closed = true then (s, 360) else if i ≠ s.next then (s, 320)
 else if (s.ring.put ⟨false, 0, rawS (lineS i e t)⟩).2.2 ≠ 0 then ({ s with live := false }, 350)
 else ({ s with ring := (s.ring.put ⟨false, 0, rawS (lineS i e t)⟩).1, next := s.next + 1 }, 0)
def reach (s : Ss) (many : Int) : Ss × Int :=
 if ¬ (s.next ≤ many ∧ many ≤ 2147483647) then (s, 2) else if s.closed = true then (s, 360) else ({ s with live := many == s.next }, 0)
def keyS (x : Sd) : Int := x.member + if x.kind = 11 then 16 else 0
def besOk (x : Sd) : Bool := (decide (x.kind = 10) || decide (x.kind = 11)) && sdB x
def beside (s : Ss) (x : Sd) : Ss × Int × Int :=
 if besOk x = false then (s, 0, 2) else if s.closed = true then (s, 0, 360)
 else ({ s with ring := (s.ring.put ⟨true, keyS x, rawS x⟩).1 }, ((s.ring.put ⟨true, keyS x, rawS x⟩).2.1 : Nat), 0)
def waits (s : Ss) : Bool := match s.ring.items with
 | [] => false
 | x :: _ => !x.side && decide (s.sent - s.acked ≥ (s.ring.most : Int))
def take (s : Ss) : Ss × Option (List UInt8) :=
 if s.closed = true then ({ s with bye := none }, s.bye) else if s.waits = true then (s, none)
 else match s.ring.items with
  | [] => (s, none)
  | x :: r => ({ s with ring := { s.ring with items := r }, sent := s.sent + if x.side then 0 else 1 }, some x.bytes)
def ack (s : Ss) (i now : Int) : Ss × Int :=
 if ¬ ((s.acked ≤ i ∧ i ≤ s.sent) ∧ s.heard ≤ now ∧ now ≤ farN) then (s, 2) else if s.closed = true then (s, 360) else ({ s with acked := i, heard := now }, 0)
def hear (s : Ss) (now : Int) : Ss × Int :=
 if ¬ (s.heard ≤ now ∧ now ≤ farN) then (s, 2) else if s.closed = true then (s, 360) else ({ s with heard := now }, 0)
def silent (s : Ss) (now : Int) : Bool := !s.closed && (decide (s.heard ≤ now) && decide (s.wait ≤ now - s.heard))
def close (s : Ss) (why : Int) : Ss × Int :=
 if ¬ (0 ≤ why ∧ why ≤ 2147483647) then (s, 2) else if s.closed = true then (s, 360)
 else ({ s with closed := true, live := false, ring := { s.ring with items := [] }, bye := some (rawS (byeS why)) }, 0)
def queued (s : Ss) : Int := if s.bye.isSome then 1 else (s.ring.items.length : Int)
abbrev cells (s : Ss) : List Value := [.int .i64 s.member, .int .i64 s.number, .int .i64 s.next, .int .i64 s.sent, .int .i64 s.acked, .int .i64 s.heard, .bool s.live, .bool s.closed, .int .i64 0]
abbrev state (s : Ss) : List Value := [.int .i64 s.member, .int .i64 s.number, .int .i64 s.next, .int .i64 s.sent, .int .i64 s.acked, .int .i64 s.heard, .bool s.live, .bool s.closed, .int .i64 s.queued]
end Ss
open Ss
structure OkSs (s : Ss) (k : Nat) : Prop where
 mem : 0 ≤ s.member ∧ s.member ≤ 15
 num : 0 ≤ s.number ∧ s.number ≤ 2147483647
 ack0 : 0 ≤ s.acked
 sent0 : s.acked ≤ s.sent
 next0 : s.sent + (mains s.ring.items : Nat) ≤ s.next
 next1 : s.next ≤ 2147483648
 heard : 0 ≤ s.heard ∧ s.heard ≤ farN
 wait : 1 ≤ s.wait ∧ s.wait ≤ 1000000
 most : 1 ≤ s.ring.most ∧ s.ring.most ≤ 64
 len : s.ring.items.length ≤ s.ring.most
 lost : s.ring.lost ≤ k
 its : ∀ x ∈ s.ring.items, x.bytes.length ≤ 484
 bye : s.closed = false → s.bye = none
 byeL : ∀ b, s.bye = some b → b.length ≤ 484 ∧ b ≠ []
 empty : s.closed = true → s.ring.items = []
theorem frame_pos (l : List UInt8) : frameL l ≠ [] := by
 unfold frameL; intro h; have h1 := congrArg List.length h; have h2 := sealL_len l; rw [List.length_append, List.length_nil] at h1; omega
theorem raw_len (x : Sd) (h : sdB x = true) : (rawS x).length ≤ 484 := frame_len (body_len x h)
theorem sd_bye (n : Int) (h : 0 ≤ n ∧ n ≤ 2147483647) : sdB (byeS n) = true := by
 have h1 : (byeS n).kind = 12 := rfl; unfold sdB; rw [h1]; simp only [partsOf]; simp [Part.clear, Part.may, byeS, Sd.of, h.1, h.2]
theorem new_ok {member number fr most wait now : Int} (h : newOk member number fr most wait now = true) : OkSs (newS member number fr most.toNat wait now) 0 ∧ (most.toNat : Int) = most := by
 unfold newOk at h; simp only [Bool.and_eq_true, decide_eq_true_eq] at h; obtain ⟨⟨⟨⟨⟨h1, h2⟩, h3⟩, h4⟩, h5⟩, h6⟩ := h; refine ⟨⟨h2, h3, h4.1, Int.le_refl _, ?_, ?_, h6, h5, ?_, Nat.zero_le _, Nat.le_refl _, ?_, fun _ => rfl, ?_, ?_⟩, by omega⟩
 · simp [newS, mains]
 · simp only [newS]; omega
 · simp only [newS]; omega
 · intro x hx; simp [newS] at hx
 · intro b hb; cases hb
 · intro hb; cases hb
section
variable {s : Ss} {k : Nat}
theorem OkSs.put (h : OkSs s k) (x : It) (hx : x.bytes.length ≤ 484) : PutMain s.ring x (s.ring.put x) := put_main s.ring x h.len (by omega)
theorem put_len (R : AR) (x : It) (h : R.items.length ≤ R.most) : (R.put x).1.items.length ≤ R.most := by
 unfold AR.put; split
 · exact h
 · split
   · exact h
   · cases hf : R.items.findIdx? (p33 x) with
     | some i => dsimp only; rw [List.length_set]; exact h
     | none =>
       dsimp only; split
       · dsimp only; rw [List.length_append, List.length_singleton]; omega
       · cases hg : R.items.findIdx? p34 with
         | some i =>
           obtain ⟨hi, -⟩ := findIdx_at hg; dsimp only; rw [List.length_append, List.length_eraseIdx, if_pos hi, List.length_singleton]; omega
         | none =>
           dsimp only; split
           · exact h
           · exact h
theorem put_err (R : AR) (x : It) (h : (R.put x).2.2 ≠ 0) : (R.put x).1 = R := by
 unfold AR.put at h ⊢; by_cases h1 : (!x.side && x.key != 0) = true
 · rw [if_pos h1]
 · rw [if_neg h1] at h ⊢
   by_cases h2 : 1024 < x.bytes.length
   · rw [if_pos h2]
   · rw [if_neg h2] at h ⊢
     cases hf : R.items.findIdx? (p33 x) with
     | some i => rw [hf] at h; exact absurd rfl h
     | none =>
       rw [hf] at h; dsimp only at h ⊢; by_cases h3 : R.items.length < R.most
       · rw [if_pos h3] at h; exact absurd rfl h
       · rw [if_neg h3] at h ⊢
         cases hg : R.items.findIdx? p34 with
         | some i => rw [hg] at h; exact absurd rfl h
         | none =>
           rw [hg] at h; dsimp only at h ⊢; by_cases h4 : x.side = true
           · rw [if_pos h4] at h; exact absurd rfl h
           · rw [if_neg h4]
theorem OkSs.mono (h : OkSs s k) {k' : Nat} (hk : k ≤ k') : OkSs s k' := { h with lost := Nat.le_trans h.lost hk }
theorem OkSs.putOk (h : OkSs s k) (x : It) (hx : x.bytes.length ≤ 484) (hc : s.closed = false) (next : Int) (hn : next ≤ 2147483648) (hm : s.sent + (mains (s.ring.put x).1.items : Nat) ≤ next) : OkSs { s with ring := (s.ring.put x).1, next := next } (k + 1) :=
 let p := h.put x hx
 ⟨h.mem, h.num, h.ack0, h.sent0, hm, hn, h.heard, h.wait, by rw [show ({ s with ring := (s.ring.put x).1, next := next } : Ss).ring.most = s.ring.most from p.most]; exact h.most,
  by show (s.ring.put x).1.items.length ≤ (s.ring.put x).1.most; rw [p.most]; exact put_len _ _ h.len, Nat.le_trans p.lost (Nat.succ_le_succ h.lost), fun y hy => (p.sub y hy).elim (h.its y) fun e => e ▸ hx, h.bye, h.byeL,
  fun h' => by rw [show s.closed = true from h'] at hc; cases hc⟩
theorem ms_mains {a b : List It} (h : ms a = ms b) : mains a = mains b := by rw [← ms_length, ← ms_length, h]
theorem OkSs.offer (h : OkSs s k) (i : Int) (e : En) (t : List UInt8) : OkSs (s.offer i e t).1 (k + 1) := by
 unfold Ss.offer; split
 · exact h.mono (Nat.le_succ _)
 · rename_i hsd
   have hsd : sdB (lineS i e t) = true := by simpa using hsd
   split
   · exact h.mono (Nat.le_succ _)
   · rename_i hc
     have hc : s.closed = false := by simpa using hc
     split
     · exact h.mono (Nat.le_succ _)
     · rename_i hi
       have hi : i = s.next := Classical.not_not.1 hi
       have hb : i ≤ 2147483647 := by
        unfold sdB at hsd; rw [show (lineS i e t).kind = 9 from rfl] at hsd; simp only [partsOf] at hsd; simp [Part.may, lineS] at hsd; exact hsd.2.1.2
       split
       · exact { h with lost := Nat.le_succ_of_le h.lost }
       · rename_i hp
         have hp : (s.ring.put ⟨false, 0, rawS (lineS i e t)⟩).2.2 = 0 := Classical.not_not.1 hp; have hl := raw_len _ hsd; refine h.putOk _ hl hc _ (by omega) ?_; have hpm := h.put ⟨false, 0, rawS (lineS i e t)⟩ hl; have h0 := h.next0; by_cases hroom : mains s.ring.items < s.ring.most
         · have := (hpm.got rfl rfl hroom).2
           have h2 := congrArg List.length this; rw [ms_length, List.length_append, ms_length] at h2; simp at h2; omega
         · have := (hpm.full rfl rfl hroom).2
           have := ms_mains this; omega
theorem OkSs.reach (h : OkSs s k) (m : Int) : OkSs (s.reach m).1 k := by
 unfold Ss.reach; split
 · exact h
 · split
   · exact h
   · exact { h with }
theorem OkSs.beside (h : OkSs s k) (x : Sd) : OkSs (s.beside x).1 (k + 1) := by
 unfold Ss.beside; split
 · exact h.mono (Nat.le_succ _)
 · rename_i hb
   have hb : besOk x = true := by simpa using hb
   have hsd : sdB x = true := by unfold besOk at hb; simp only [Bool.and_eq_true] at hb; exact hb.2
   split
   · exact h.mono (Nat.le_succ _)
   · rename_i hc
     have hc : s.closed = false := by simpa using hc
     have hl := raw_len _ hsd; have hpm := h.put ⟨true, keyS x, rawS x⟩ hl; refine h.putOk _ hl hc s.next h.next1 ?_; rw [ms_mains (hpm.other (fun h => by cases h.1))]; exact h.next0
theorem OkSs.take (h : OkSs s k) : OkSs s.take.1 k := by
 unfold Ss.take; split
 · rename_i hc
   exact { h with bye := (fun _ => rfl), byeL := (fun b hb => by cases hb) }
 · rename_i hc
   have hc : s.closed = false := by simpa using hc
   split
   · exact h
   · rename_i hw
     split
     · exact h
     · rename_i x r hxr
       have h0 := h.next0
       have hm : mains s.ring.items = (if x.side then 0 else 1) + mains r := by
        rw [hxr]; unfold mains; cases hs : x.side <;> simp [hs]
        omega
       have hle : s.sent + (if x.side = true then (0 : Int) else 1) + (mains r : Nat) ≤ s.next := by
        rw [hm] at h0; cases hs : x.side <;> simp [hs] at h0 ⊢ <;> omega
       refine { h with sent0 := ?_, next0 := hle, len := ?_, its := (fun y hy => h.its y (by rw [hxr]; exact List.mem_cons_of_mem _ hy)), empty := (fun h' => by rw [show s.closed = true from h'] at hc; cases hc) }
       · have := h.sent0
         show s.acked ≤ s.sent + (if x.side = true then 0 else 1)
         cases hs : x.side <;> simp <;> omega
       · have := h.len
         rw [hxr] at this; simp at this; show r.length ≤ s.ring.most
         omega
theorem OkSs.ack (h : OkSs s k) (i now : Int) : OkSs (s.ack i now).1 k := by
 unfold Ss.ack; split
 · exact h
 · rename_i hn
   have hn := Classical.not_not.1 hn; split
   · exact h
   · exact { h with ack0 := Int.le_trans h.ack0 hn.1.1, sent0 := hn.1.2, heard := ⟨Int.le_trans h.heard.1 hn.2.1, hn.2.2⟩ }
theorem OkSs.hear (h : OkSs s k) (now : Int) : OkSs (s.hear now).1 k := by
 unfold Ss.hear; split
 · exact h
 · rename_i hn
   have hn := Classical.not_not.1 hn; split
   · exact h
   · exact { h with heard := ⟨Int.le_trans h.heard.1 hn.1, hn.2⟩ }
theorem OkSs.close (h : OkSs s k) (why : Int) : OkSs (s.close why).1 k := by
 unfold Ss.close; split
 · exact h
 · rename_i hn
   have hn := Classical.not_not.1 hn; split
   · exact h
   · have h0 := h.next0
     exact { h with next0 := (by show s.sent + (mains [] : Nat) ≤ s.next; simp [mains]; omega), len := Nat.zero_le _, its := (fun x hx => by cases hx), bye := (fun h' => by cases h'), byeL := (fun b hb => by cases hb; exact ⟨raw_len _ (sd_bye why hn), frame_pos _⟩), empty := fun _ => rfl }
end
end Go.Proofs.YtoadjbgpfihoiaaGreatDoor
end
namespace Go.Proofs.YtoadjbgpfihoiaaGreatDoor
open Go.RowKit
theorem sin_int (w : World) (n a b : Int) : Calls Tryz.prog 77 #[.int .i64 n, .int .i64 a, .int .i64 b] w fun e w' => e = .returned (.bool (decide (a ≤ n ∧ n ≤ b))) ∧ w' = w := by
 by_cases h1 : a ≤ n
 · have e1 : decide (a ≤ n ∧ n ≤ b) = decide (n ≤ b) := by simp [h1]
   rw [e1]; clear e1; go_enter Tryz.func77, Tryz.ntmps77
   go_wp2_with fail; go_ret; exact ⟨rfl, rfl⟩
 · have e1 : decide (a ≤ n ∧ n ≤ b) = false := by simp [h1]
   rw [e1]; clear e1; go_enter Tryz.func77, Tryz.ntmps77
   go_wp2_with fail; go_ret; exact ⟨rfl, rfl⟩
theorem sin_i64 (w : World) (n a b : Int) : Calls Tryz.prog 78 #[.int .i64 n, .int .i64 a, .int .i64 b] w fun e w' => e = .returned (.bool (decide (a ≤ n ∧ n ≤ b))) ∧ w' = w := by
 by_cases h1 : a ≤ n
 · have e1 : decide (a ≤ n ∧ n ≤ b) = decide (n ≤ b) := by simp [h1]
   rw [e1]; clear e1; go_enter Tryz.func78, Tryz.ntmps78
   go_wp2_with fail; go_ret; exact ⟨rfl, rfl⟩
 · have e1 : decide (a ≤ n ∧ n ≤ b) = false := by simp [h1]
   rw [e1]; clear e1; go_enter Tryz.func78, Tryz.ntmps78
   go_wp2_with fail; go_ret; exact ⟨rfl, rfl⟩
theorem within_any (w : World) (n a b : Int) : Calls Tryz.prog 81 #[.int .i64 n, .int .i64 a, .int .i64 b] w fun e w' => e = .returned (.bool (decide (a ≤ n ∧ n ≤ b))) ∧ w' = w := by
 by_cases h1 : a ≤ n
 · have e1 : decide (a ≤ n ∧ n ≤ b) = decide (n ≤ b) := by simp [h1]
   rw [e1]; clear e1; go_enter Tryz.func81, Tryz.ntmps81
   go_wp2_with fail; go_ret; exact ⟨rfl, rfl⟩
 · have e1 : decide (a ≤ n ∧ n ≤ b) = false := by simp [h1]
   rw [e1]; clear e1; go_enter Tryz.func81, Tryz.ntmps81
   go_wp2_with fail; go_ret; exact ⟨rfl, rfl⟩
theorem snone_nil (w : World) : Calls Tryz.prog 84 #[.pointer none] w fun e w' => e = .returned (.bool true) ∧ w' = w := by
 go_enter Tryz.func84, Tryz.ntmps84
 go_wp2
 go_ret; exact ⟨rfl, rfl⟩
theorem snone_zero (w : World) (b : Nat) (h : w.cell? ⟨b, 0, none⟩ = some (.pointer none)) : Calls Tryz.prog 84 #[.pointer (some ⟨b, 0, none⟩)] w fun e w' => e = .returned (.bool true) ∧ w' = w := by
 go_enter Tryz.func84, Tryz.ntmps84
 go_wp2
 go_ret; exact ⟨rfl, rfl⟩
theorem snone_no (w : World) (b : Nat) (a : Addr) (h : w.cell? ⟨b, 0, none⟩ = some (.pointer (some a))) : Calls Tryz.prog 84 #[.pointer (some ⟨b, 0, none⟩)] w fun e w' => e = .returned (.bool false) ∧ w' = w := by
 go_enter Tryz.func84, Tryz.ntmps84
 go_wp2
 go_ret; exact ⟨rfl, rfl⟩
structure Flt where
 f : FuncId
 first : Array Value
 cap : Array Value
 why : Int
def Flt.v (p : Flt) : Value := .func (.func p.f) p.first p.cap
def fltE : Enc Flt where
 cells p := [p.v, .int .i64 p.why]
 sz := 2
 len _ := rfl
 one p u hu := by
  rcases List.mem_cons.1 hu with rfl | hu
  · rfl
  · rw [List.mem_singleton.1 hu]; rfl
theorem infoFlt : (Tryz.prog.info? 158).map (fun i => (i.zero, i.size, i.bytes)) = some (some (.agg #[.nilFunc, .int .i64 0]), 2, 16) := by kernel_rfl
def firstF : List (Flt × Bool) → Int
 | [] => 0
 | (p, b) :: l => if b then p.why else firstF l
def noneF (l : List (Flt × Bool)) : Bool := l.all fun p => !p.2
def TellsF (w : World) (p : Flt) (b : Bool) : Prop := (∀ args w, (callFunc p.f args).run Tryz.prog w = .ok (.enter p.f args) w) ∧ ∀ w1, Ext w w1 → Calls Tryz.prog p.f (p.first ++ p.cap) w1 fun e w2 => e = .returned (.bool b) ∧ Ext w1 w2
theorem does1_any (w : World) (mb : Bool) (k f : Nat) (first cap : Array Value) (h0 : w.cell? ⟨k, 0, none⟩ = some (.func (.func f) first cap)) (h : TellsF w ⟨f, first, cap, 0⟩ mb) :
 Calls Tryz.prog 147 #[.pointer (some ⟨k, 0, none⟩)] w fun e w' => e = .returned (.bool (!mb)) ∧ Ext w w' := by
 obtain ⟨hen, hc⟩ := h; dsimp only at hen hc; have HC := Hd hc; clear hc; have hk := World.block_lt_of_cell? _ _ h0; go_enter Tryz.func147, Tryz.ntmps147
 go_wp2_with fail; refine (HC.out w (Keeps.refl _ _)).mono ?_; rintro e w2 ⟨rfl, hE⟩; have HE := Hd hE; clear hE; go_wp2_with fail; go_ret; exact ⟨rfl, HE.out⟩
theorem does2_any (w : World) (k sb : Nat) (cb : Bool) (h0 : w.cell? ⟨k, 0, none⟩ = some (.pointer (some ⟨sb, 0, none⟩))) (h1 : w.cell? ⟨sb, 8, none⟩ = some (.bool cb)) :
 Calls Tryz.prog 148 #[.pointer (some ⟨k, 0, none⟩)] w fun e w' => e = .returned (.bool cb) ∧ w' = w := by
 have hk := World.block_lt_of_cell? _ _ h0; have hs := World.block_lt_of_cell? _ _ h1; go_enter Tryz.func148, Tryz.ntmps148
 go_wp2
 go_ret; exact ⟨rfl, rfl⟩
theorem Mem.rowMade {α : Type} {E : Enc α} {F : Nat → Prop} {w0 w : World} {L : List Res} {g : Nat} {t : TypeId} {l : List α} (h : Mem F w0 w (cellsR g t (E.row l) :: L)) (hl : l.length ≤ 1000000) (hz : 1 ≤ E.sz) : Mem F w0 w (rowR E (.slice (some ⟨g, 0, none⟩) l.length l.length) l :: L) :=
 h.turn fun A hA => ⟨fun k => ⟨fun hk => by rw [(hA.1 k).1 hk]; rfl, fun hk => (hA.1 k).2 (Option.some.inj (show some g = some k from hk)).symm⟩, by
  have hr := hA.2.reads; refine ⟨by rw [E.row_len], .inr ⟨g, 0, l.length, rfl, Nat.zero_le _, Nat.le_refl _, by simp [maxLen]; omega, hA.2.lt, fun j hj => ?_, fun j u hu => ?_⟩⟩
  · rw [Nat.zero_add]
    have hj' : j < (E.row l).length := by rw [E.row_len]; exact hj
    exact ⟨by rw [hr.1, List.getElem?_eq_getElem hj']; rfl, hr.2 j⟩
  · rw [Nat.zero_add, hr.1]; exact hu⟩
theorem TellsF.ext {w w' : World} {p : Flt} {b : Bool} (h : TellsF w p b) (e : Ext w w') : TellsF w' p b := ⟨h.1, fun w1 h1 => h.2 w1 (e.ext h1)⟩
def ArgF (w : World) (lv : Value) (x : List (Flt × Bool)) : Prop := (x = [] ∧ lv = .slice none 0 0) ∨ ∃ lb q b, x = [(q, b)] ∧ lv = .slice (some ⟨lb, 0, none⟩) 1 1 ∧ Box w lb 158 (fltE.cells q) ∧ TellsF w q b
theorem add_flt {F : Nat → Prop} {w0 w : World} {L : List Res} {v : Value} {l : List Flt} (ty : TypeId) (h : Mem F w0 w (rowR fltE v l :: L)) (lv : Value) (x : List (Flt × Bool)) (hx : ArgF w lv x) (hl : l.length ≤ 100) :
 ∃ v' w', (Builtin.append_ #[210, 210] ty #[v, lv]).run Tryz.prog w = .ok v' w' ∧ Mem F w0 w' (rowR fltE v' (l ++ x.map (·.1)) :: L) := by
 obtain ⟨i0, hi, hz0, hz1, hz2⟩ := info_parts infoFlt; rcases hx with ⟨rfl, rfl⟩ | ⟨lb, q, b, rfl, rfl, hc, -⟩
 · obtain ⟨v', w', hr, hm⟩ := Mem.append (P := Tryz.prog) 210 210 ty 158 i0 _ 2 16 Tryz.underlying210 hi hz0 hz1 hz2 rfl h
    (.slice none 0 0) 0 [] (SrcCells.toSrc (.inl ⟨rfl, rfl, rfl⟩) Tryz.underlying210 rfl (fun u hu => by cases hu)) (by simp [maxLen]; omega) (by omega)
   refine ⟨v', w', hr, ?_⟩; rw [List.map_nil, List.append_nil]; unfold rowR; rw [Nat.add_zero, List.append_nil] at hm; exact hm
 · obtain ⟨v', w', hr, hm⟩ := Mem.rowAdd (P := Tryz.prog) 210 210 ty 158 i0 _ 16 Tryz.underlying210 Tryz.underlying210 hi hz0 hz1 hz2 rfl h lb 1 q hc.reads.1 (by simp [maxLen]; omega) (by omega)
   exact ⟨v', w', hr, hm⟩
def doesI (nb mb cb : Bool) (x : List (Flt × Bool)) : Int := if nb then 1 else if !mb then 2 else if cb then 360 else firstF x
def doesB (nb mb cb : Bool) (x : List (Flt × Bool)) : Bool := !nb && mb && !cb && noneF x
theorem noneF_cons (p : Flt × Bool) (l : List (Flt × Bool)) : noneF (p :: l) = (!p.2 && noneF l) := by simp [noneF]
theorem firstF_take : ∀ (l : List (Flt × Bool)) (j : Nat) (hj : j < l.length), (∀ q ∈ l.take j, q.2 = false) → l[j].2 = true → firstF l = l[j].1.why
 | (p, b) :: l, 0, _, _, h => by
   have h : b = true := h; subst h; rfl
 | (p, b) :: l, j + 1, hj, hb, h => by
   have h0 : b = false := hb (p, b) (by rw [List.take_succ_cons]; exact List.mem_cons_self ..); subst h0; exact firstF_take l j (by simpa using hj) (fun q hq => hb q (by rw [List.take_succ_cons]; exact List.mem_cons_of_mem _ hq)) (by simpa using h)
theorem noneF_take (l : List (Flt × Bool)) (j : Nat) (hj : j < l.length) (h : l[j].2 = true) : noneF l = false := by
 unfold noneF; rw [List.all_eq_false]; exact ⟨l[j], List.getElem_mem hj, by rw [h]; simp⟩
theorem firstF_all (l : List (Flt × Bool)) (h : ∀ q ∈ l, q.2 = false) : firstF l = 0 ∧ noneF l = true := by
 induction l with
 | nil => exact ⟨rfl, rfl⟩
 | cons p l ih =>
   obtain ⟨p, b⟩ := p; have hb : b = false := h (p, b) (List.mem_cons_self ..); subst hb; have := ih fun q hq => h q (List.mem_cons_of_mem _ hq)
   exact ⟨this.1, by rw [noneF_cons, this.2]; rfl⟩
def allF (p : Option Addr) (k4 k5 : Nat) (nb mb cb : Bool) (x : List (Flt × Bool)) : List (Flt × Bool) :=
 [(⟨84, #[.pointer p], #[], 1⟩, nb), (⟨147, #[], #[.pointer (some ⟨k5, 0, none⟩)], 2⟩, !mb), (⟨148, #[], #[.pointer (some ⟨k4, 0, none⟩)], 360⟩, cb)] ++ x
theorem allF_first (p : Option Addr) (k4 k5 : Nat) (nb mb cb : Bool) (x : List (Flt × Bool)) : firstF (allF p k4 k5 nb mb cb x) = doesI nb mb cb x := by
 unfold allF doesI; cases nb <;> cases mb <;> cases cb <;> rfl
theorem allF_none (p : Option Addr) (k4 k5 : Nat) (nb mb cb : Bool) (x : List (Flt × Bool)) : noneF (allF p k4 k5 nb mb cb x) = doesB nb mb cb x := by
 unfold allF doesB; rw [List.cons_append, List.cons_append, List.cons_append, List.nil_append, noneF_cons, noneF_cons, noneF_cons]; cases nb <;> cases mb <;> cases cb <;> simp
theorem allF_tells {w wr : World} {p : Option Addr} {k4 k5 : Nat} {nb mb cb : Bool} {mf : Nat} {m1 m2 : Array Value} {lv : Value} {x : List (Flt × Bool)} (hE : Ext w wr)
 (hn : ∀ w1, Ext w w1 → Calls Tryz.prog 84 #[.pointer p] w1 fun e w2 => e = .returned (.bool nb) ∧ w2 = w1)
 (hm : nb = false → TellsF w ⟨mf, m1, m2, 0⟩ mb) (hs : nb = false → ∃ sb, p = some ⟨sb, 0, none⟩ ∧ w.cell? ⟨sb, 8, none⟩ = some (.bool cb)) (hx : ArgF w lv x)
 (b5 : Box wr k5 22 [.func (.func mf) m1 m2]) (b4 : Box wr k4 64 [.pointer p])
 (j : Nat) (hj : j < (allF p k4 k5 nb mb cb x).length) (hf : ∀ q ∈ (allF p k4 k5 nb mb cb x).take j, q.2 = false) : TellsF wr (allF p k4 k5 nb mb cb x)[j].1 (allF p k4 k5 nb mb cb x)[j].2 := by
 have hnb : 1 ≤ j → nb = false := fun h => hf (_, nb) (by
  obtain ⟨i, rfl⟩ : ∃ i, j = i + 1 := ⟨j - 1, by omega⟩; unfold allF; rw [List.cons_append, List.take_succ_cons]; exact List.mem_cons_self ..)
 obtain rfl | rfl | rfl | hj3 : j = 0 ∨ j = 1 ∨ j = 2 ∨ 3 ≤ j := by omega
 · refine ⟨enters_of Tryz.func84 (by kernel_rfl) rfl, fun w1 h1 => ?_⟩
   refine (hn w1 (hE.ext h1)).mono ?_; rintro e w2 ⟨rfl, rfl⟩; exact ⟨rfl, Keeps.refl _ _⟩
 · refine ⟨enters_of Tryz.func147 (by kernel_rfl) rfl, fun w1 h1 => ?_⟩
   exact does1_any w1 mb k5 mf m1 m2 ((b5.ext h1).reads.1 0) ((hm (hnb (Nat.le_refl _))).ext (hE.ext h1))
 · refine ⟨enters_of Tryz.func148 (by kernel_rfl) rfl, fun w1 h1 => ?_⟩
   obtain ⟨sb, rfl, hc⟩ := hs (hnb (by omega)); refine (does2_any w1 k4 sb cb ((b4.ext h1).reads.1 0) ((hE.ext h1).cell (noB _) hc)).mono ?_; rintro e w2 ⟨rfl, rfl⟩; exact ⟨rfl, Keeps.refl _ _⟩
 · rcases hx with ⟨rfl, -⟩ | ⟨lb, q, b, rfl, -, -, ht⟩
   · have : (allF p k4 k5 nb mb cb []).length = 3 := rfl
     omega
   · have : (allF p k4 k5 nb mb cb [(q, b)]).length = 4 := rfl
     obtain rfl : j = 3 := by omega
     exact ht.ext hE
theorem does_any {Q : World → Prop} (w : World) (p : Option Addr) (nb mb cb : Bool) (mf df : Nat) (m1 m2 d1 d2 : Array Value) (lv : Value) (x : List (Flt × Bool)) (hxl : x.length ≤ 1)
 (hn : ∀ w1, Ext w w1 → Calls Tryz.prog 84 #[.pointer p] w1 fun e w2 => e = .returned (.bool nb) ∧ w2 = w1)
 (hm : nb = false → TellsF w ⟨mf, m1, m2, 0⟩ mb) (hs : nb = false → ∃ sb, p = some ⟨sb, 0, none⟩ ∧ w.cell? ⟨sb, 8, none⟩ = some (.bool cb)) (hx : ArgF w lv x)
 (hen : ∀ args w, (callFunc df args).run Tryz.prog w = .ok (.enter df args) w)
 (hd : doesB nb mb cb x = true → ∀ w1, Ext w w1 → Calls Tryz.prog df (d1 ++ d2) w1 fun e w2 => e = .returned (.tuple #[]) ∧ Q w2) :
 Calls Tryz.prog 88 #[.pointer p, .func (.func mf) m1 m2, .func (.func df) d1 d2, lv] w fun e w' =>
  e = .returned (.int .i64 (doesI nb mb cb x)) ∧ (doesB nb mb cb x = true → Q w') ∧ (doesB nb mb cb x = false → Ext w w') := by
 have HM := Hd (Mem.start0 w); have HN := Hd hn; have HMY := Hd hm; have HS := Hd hs; have HX := Hd hx; have HD := Hd hd; clear hn hm hs hx hd; go_enter Tryz.func88, Tryz.ntmps88
 have fM := HM.out.fa; go_wp2_with (at_builtin; refine standing ?_); clear fM; obtain ⟨k4, hk4⟩ : ∃ k, w.heap.size = k := ⟨_, rfl⟩; obtain ⟨k5, hk5⟩ : ∃ k, w.heap.size + 1 = k := ⟨_, rfl⟩; obtain ⟨k6, hk6⟩ : ∃ k, w.heap.size + 1 + 1 = k := ⟨_, rfl⟩; refine nxt HM fun w1 M => ?_
 replace HM := M; clear M; rw [hk6] at HM ⊢; rw [hk5] at HM ⊢; rw [hk4] at HM ⊢; clear hk4 hk5 hk6; have hr1 := Mem.rowMade (E := fltE) (l := [⟨84, #[.pointer p], #[], 1⟩, ⟨147, #[], #[.pointer (some ⟨k5, 0, none⟩)], 2⟩, ⟨148, #[], #[.pointer (some ⟨k4, 0, none⟩)], 360⟩]) HM.out (by simp) (by decide)
 obtain ⟨v2, w2, hr, hm⟩ := add_flt 210 hr1 lv x (by
  have he := HM.out.extTo; rcases HX.out with h | ⟨lb, q, b, h1, h2, h3, h4⟩
  · exact .inl h
  · exact .inr ⟨lb, q, b, h1, h2, h3.ext he, h4.ext he⟩) (by simp)
 replace HM := Hd hm; clear hm hr1; refine ⟨?_⟩; refine wpList_append_ran rfl _ _ hr rfl rfl rfl ?_; clear hr; obtain ⟨fs, hfs⟩ : ∃ fs, allF p k4 k5 nb mb cb x = fs := ⟨_, rfl⟩; have HFS := Hd hfs
 have hm2 : Mem NoB w w2 [rowR fltE v2 (fs.map (·.1)), cellsR k5 22 [.func (.func mf) m1 m2], cellsR k4 64 [.pointer p]] := by
  rw [← hfs]; exact HM.out
 replace HM := Hd hm2
 have hlen : fs.length ≤ 4 := by
  rw [← hfs]; unfold allF; simp; omega
 obtain ⟨a2, c2, rfl⟩ := HM.out.fact fun A h => row_len h
 rw [List.length_map] at *; clear hm2 hfs; go_wp2_with fail; go_loopw [24] (fun i wr => ∃ j : Nat, j ≤ fs.length ∧ i = .int .i64 j ∧ Hid (∀ q ∈ fs.take j, q.2 = false) ∧ Hid (Mem NoB w wr [rowR fltE (.slice a2 fs.length c2) (fs.map (·.1)), cellsR k5 22 [.func (.func mf) m1 m2], cellsR k4 64 [.pointer p]])) (fun i _ => fs.length - (intOf i).toNat)
 case atStart => exact ⟨0, Nat.zero_le _, rfl, Hd (fun q hq => by cases hq), HM⟩
 case round =>
  clear HM; obtain ⟨j, hj, rfl, HF, HM⟩ := hrel; by_cases hlt : j < fs.length
  · have g1 : (j : Int) < fs.length := by omega
    have g2 : ¬ (j : Int) < 0 := by omega
    obtain ⟨A1, hrow⟩ := HM.out.get (r := rowR fltE (.slice a2 fs.length c2) (fs.map (·.1))) pk; obtain ⟨g, o, cap, hsl, hcap, -, hat⟩ := row_cells hrow (by rw [List.length_map]; omega); rw [List.length_map] at hsl hcap; have hat0 := hat j (by rw [List.length_map]; exact hlt); injection hsl with hs1 hs2 hs3
    subst hs1 hs3; have c0 := hat0 0 (by decide); have c1 := hat0 1 (by decide); obtain ⟨A5, h5⟩ := HM.out.get (r := cellsR k5 22 [.func (.func mf) m1 m2]) pk; obtain ⟨A4, h4⟩ := HM.out.get (r := cellsR k4 64 [.pointer p]) pk; have htl := allF_tells HM.out.extTo HN.out HMY.out HS.out HX.out h5.2 h4.2 j (by rw [HFS.out]; exact hlt) (by rw [HFS.out]; exact HF.out); have hq1 : (allF p k4 k5 nb mb cb x)[j]'(by rw [HFS.out]; exact hlt) = fs[j] := by first | (congr 1; exact HFS.out) | congr 1
    rw [hq1] at htl; have HTK := Hd (List.take_succ_eq_append_getElem hlt); have HFI := Hd (fun h => firstF_take fs j hlt HF.out h); have HNO := Hd (fun h => noneF_take fs j hlt h); rw [List.getElem_map] at c0 c1; obtain ⟨q, hq⟩ : ∃ q, fs[j] = q := ⟨_, rfl⟩; rw [hq] at htl c0 c1 HTK HFI HNO; obtain ⟨⟨qf, q1, q2, qw⟩, qb⟩ := q; obtain ⟨hqe, htl⟩ := htl; dsimp only at htl hqe HFI HNO; have c0' : wr.cell? ⟨g, o + j * 2, none⟩ = some (.func (.func qf) q1 q2) := c0; have c1' : wr.cell? ⟨g, o + j * 2 + 1, none⟩ = some (.int .i64 qw) := c1; have HTL := Hd htl; have hgl := World.block_lt_of_cell? _ _ c0'; clear hrow hat hat0 c0 c1 h5 h4 htl hq1 hq hcap; go_wp2_with fail; obtain ⟨k11, hk11⟩ : ∃ k, wr.heap.size = k := ⟨_, rfl⟩; obtain ⟨w3, hw3⟩ : ∃ w3, wr.alloc (Obj.cells #[.func (.func qf) q1 q2, .int .i64 qw] 158) = w3 := ⟨_, rfl⟩; have hE3 : Ext wr w3 := by rw [← hw3]; exact (Keeps.refl _ _).alloc _
    have hm3 := HM.out.alloc (t := 158) (cs := [.func (.func qf) q1 q2, .int .i64 qw]) hk11; rw [show wr.alloc (Obj.cells [.func (.func qf) q1 q2, .int .i64 qw].toArray 158) = w3 from hw3] at hm3; rw [hw3, hk11]; replace HM := Hd hm3; clear hw3 hk11 hm3 c0' c1' hgl; refine (HTL.out w3 hE3).mono ?_; rintro e w4 ⟨rfl, hE4⟩; replace HM := Hd (HM.out.ext hE4); clear hE3 hE4 HTL; cases qb
    · skip
      have fM := HM.out.fa; go_wp2_with fail; all_goals clear fM
      go_roundw
      case rel =>
       refine ⟨j + 1, by omega, by go_num, Hd ?_, Hd (Mem.sub HM.out sbI)⟩; rw [HTK.out]; intro y hy; rcases List.mem_append.1 hy with hy | hy
       · exact HF.out y hy
       · rw [List.mem_singleton.1 hy]
      case measure => simp [intOf]; omega
    · have h1 := HFI.out rfl
      have h2 := HNO.out rfl; rw [← HFS.out, allF_first] at h1; rw [← HFS.out, allF_none] at h2; have H1 := Hd h1; have H2 := Hd h2; clear h1 h2; have fM := HM.out.fa; go_wp2_with fail; all_goals clear fM
      go_ret; rw [H1.out, H2.out]; exact ⟨rfl, (fun h => by cases h), fun _ => HM.out.extTo⟩
  · obtain rfl : j = fs.length := by omega
    rw [List.take_length] at HF; obtain ⟨h1, h2⟩ := firstF_all fs HF.out; rw [← HFS.out, allF_first] at h1; rw [← HFS.out, allF_none] at h2; have H1 := Hd h1; have H2 := Hd h2; have HDD := Hd (HD.out h2 wr HM.out.extTo); clear h1 h2; go_wp2_with fail; refine HDD.out.mono ?_; rintro e w4 ⟨rfl, hq⟩; have HQ := Hd hq; clear hq; go_wp2_with fail; go_ret; rw [H1.out, H2.out]; exact ⟨rfl, fun _ => HQ.out, fun h => by cases h⟩
end Go.Proofs.YtoadjbgpfihoiaaGreatDoor
