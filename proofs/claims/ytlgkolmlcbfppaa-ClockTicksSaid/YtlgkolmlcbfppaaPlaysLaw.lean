/- tidemarklaw2.plays: it answers true at every script, whichever answers are held. -/
import Derived.Test.YtlgkolmlcbfppaaMade
import Derived.Test.YtlgkolmlcbfppaaTold
namespace Go.Proofs.Ytlgkolmlcbfppaa
open Go.RowKit

structure OpR where
  kind : Int
  place : Int
  node : Int
  win : Int
  num : Int
  s0 : Int
  s1 : Int
  s2 : Int

/-- The script as it lies in memory, each number of its kind. -/
def OpsAt (w : World) (p : Option Addr) (n : Nat) (f : Nat → OpR) : Prop := ∀ k, k < n → ∃ b off, p = some ⟨b, off, none⟩ ∧ b < w.heap.size ∧
  w.cell? ⟨b, off + k * 8, none⟩ = some (.int .i64 (f k).kind) ∧ w.cell? ⟨b, off + k * 8 + 1, none⟩ = some (.int .i64 (f k).place) ∧
  w.cell? ⟨b, off + k * 8 + 2, none⟩ = some (.int .u32 (f k).node) ∧ w.cell? ⟨b, off + k * 8 + 3, none⟩ = some (.int .u64 (f k).win) ∧ w.cell? ⟨b, off + k * 8 + 4, none⟩ = some (.int .u64 (f k).num) ∧
  w.cell? ⟨b, off + k * 8 + 5, none⟩ = some (.int .u64 (f k).s0) ∧ w.cell? ⟨b, off + k * 8 + 6, none⟩ = some (.int .u32 (f k).s1) ∧ w.cell? ⟨b, off + k * 8 + 7, none⟩ = some (.int .u32 (f k).s2) ∧
  0 ≤ (f k).node ∧ 0 ≤ (f k).win ∧ (f k).win ≤ topW ∧ (0 ≤ (f k).num ∧ (f k).num ≤ topW) ∧ (0 ≤ (f k).s0 ∧ (f k).s0 ≤ topW ∧ 0 ≤ (f k).s1 ∧ (f k).s1 ≤ topL ∧ 0 ≤ (f k).s2)

def cv : Option PS → Value
  | none => .pointer none
  | some p => .pointer (some ⟨p.cb, 0, none⟩)
def dv : Option PS → Value
  | none => .pointer none
  | some p => .pointer (some ⟨p.db, 0, none⟩)
def locA (Q : Nat → Option PS) : Array Value := #[cv (Q 0), dv (Q 0), cv (Q 1), dv (Q 1), cv (Q 2), dv (Q 2)]
def upd (Q : Nat → Option PS) (j : Nat) (p : PS) (i : Nat) : Option PS := if i = j then some p else Q i
theorem locA_c (Q : Nat → Option PS) (j : Nat) (h : j < 3) : (locA Q)[j * 2]? = some (cv (Q j)) := by
  match j, h with
  | 0, _ => rfl
  | 1, _ => rfl
  | 2, _ => rfl
theorem locA_d (Q : Nat → Option PS) (j : Nat) (h : j < 3) : (locA Q)[j * 2 + 1]? = some (dv (Q j)) := by
  match j, h with
  | 0, _ => rfl
  | 1, _ => rfl
  | 2, _ => rfl
theorem locA_upd (Q : Nat → Option PS) (j : Nat) (h : j < 3) (p : PS) :
    ((locA Q).setIfInBounds (j * 2) (.pointer (some ⟨p.cb, 0, none⟩))).setIfInBounds (j * 2 + 1) (.pointer (some ⟨p.db, 0, none⟩)) = locA (upd Q j p) := by
  match j, h with
  | 0, _ => rfl
  | 1, _ => rfl
  | 2, _ => rfl
theorem locA_same (Q : Nat → Option PS) (j : Nat) (h : j < 3) (p p' : PS) (hQ : Q j = some p) (h1 : p'.cb = p.cb) (h2 : p'.db = p.db) : locA (upd Q j p') = locA Q := by
  match j, h with
  | 0, _ => simp [locA, upd, hQ, cv, dv, h1, h2]
  | 1, _ => simp [locA, upd, hQ, cv, dv, h1, h2]
  | 2, _ => simp [locA, upd, hQ, cv, dv, h1, h2]

/-- All three places stand well, and share nothing. -/
def Places (B lb k : Nat) (Q : Nat → Option PS) (w : World) : Prop :=
  w.heap[lb]? = some (.cells (locA Q) 91 (0, 0)) ∧ (∀ j p, Q j = some p → p.At B lb w ∧ p.Agree k) ∧ ∀ j j' p p', j ≠ j' → Q j = some p → Q j' = some p' → ∀ x, p.F x → ¬ p'.F x

theorem agree_le {p : PS} {a b : Nat} (h : p.Agree a) (hab : a ≤ b) : p.Agree b := by
  obtain ⟨a1, a2, a3, a4, a5, a6, a7, a8⟩ := h
  exact ⟨a1, a2, a3, a4, by omega, by omega, by omega, a8⟩
theorem at_lt {p : PS} {B lb : Nat} {w : World} (h : p.At B lb w) {x : Nat} (hx : p.F x) : x < w.heap.size := by
  have hc := lt_of_heap h.clk
  have hd := h.dat.le
  rcases hx with e | e | e | e | e <;> omega
theorem at_foot {p : PS} {B lb : Nat} {w w' : World} {F : Nat → Prop} (h : p.At B lb w) (hF : Foot F w w') (hn : ∀ x, p.F x → ¬ F x) : p.At B lb w' :=
  ⟨foot_heap hF h.clk (hn _ (Or.inl rfl)), foot_dat hF h.dat (hn _ (Or.inr (Or.inl rfl))) (hn _ (Or.inr (Or.inr (Or.inl rfl)))) (hn _ (Or.inr (Or.inr (Or.inr (Or.inl rfl))))) (hn _ (Or.inr (Or.inr (Or.inr (Or.inr rfl))))), h.apart, h.base, h.loc⟩

theorem places_below {B lb k : Nat} {Q : Nat → Option PS} {w w' : World} (h : Places B lb k Q w) (hb : Below w.heap.size w w') : Places B lb k Q w' :=
  ⟨below_heap hb h.1 (lt_of_heap h.1), fun j p hj => ⟨at_foot (F := fun _ => False) (h.2.1 j p hj).1 (Foot.ofBelow hb) (fun _ _ => id), (h.2.1 j p hj).2⟩, h.2.2⟩
theorem places_more {B lb k : Nat} {Q : Nat → Option PS} {w : World} (h : Places B lb k Q w) : Places B lb (k + 1) Q w :=
  ⟨h.1, fun j p hj => ⟨(h.2.1 j p hj).1, agree_more (h.2.1 j p hj).2⟩, h.2.2⟩
theorem places_made {B lb k : Nat} {Q : Nat → Option PS} {w w' : World} {j : Nat} (hj : j < 3) (h : Places B lb k Q w) {p : PS} (hF : Foot (· = lb) w w') (hp : p.At B lb w') (ha : p.Agree 0) (hn : ∀ x, p.F x → w.heap.size ≤ x)
    (hl : w'.heap[lb]? = some (.cells (((locA Q).setIfInBounds (j * 2) (.pointer (some ⟨p.cb, 0, none⟩))).setIfInBounds (j * 2 + 1) (.pointer (some ⟨p.db, 0, none⟩))) 91 (0, 0))) : Places B lb (k + 1) (upd Q j p) w' := by
  rw [locA_upd Q j hj p] at hl
  refine ⟨hl, fun i q hq => ?_, fun i i' q q' hne hq hq' x hx => ?_⟩
  · unfold upd at hq
    by_cases e : i = j
    · rw [if_pos e] at hq; cases hq; exact ⟨hp, agree_le ha (Nat.zero_le _)⟩
    · rw [if_neg e] at hq
      have := h.2.1 i q hq
      exact ⟨at_foot this.1 hF (fun x hx e => this.1.loc (by rw [← e]; exact hx)), agree_more this.2⟩
  · unfold upd at hq hq'
    by_cases e : i = j
    · rw [if_pos e] at hq; cases hq
      rw [if_neg (fun e' => hne (e.trans e'.symm))] at hq'
      intro hx'
      have := at_lt (h.2.1 i' q' hq').1 hx'
      have := hn x hx
      omega
    · rw [if_neg e] at hq
      by_cases e' : i' = j
      · rw [if_pos e'] at hq'; cases hq'
        intro hx'
        have := at_lt (h.2.1 i q hq).1 hx
        have := hn x hx'
        omega
      · rw [if_neg e'] at hq'
        exact h.2.2 i i' q q' hne hq hq' x hx
theorem places_told {B lb k : Nat} {Q : Nat → Option PS} {w w' : World} {j : Nat} (hj : j < 3) (h : Places B lb k Q w) {p p' : PS} (hQ : Q j = some p) (hF : Foot p.F w w') (hp : p'.At B lb w') (ha : p'.Agree (k + 1)) (h1 : p'.cb = p.cb) (h2 : p'.db = p.db)
    (hn : ∀ x, p'.F x → p.F x ∨ w.heap.size ≤ x) : Places B lb (k + 1) (upd Q j p') w' := by
  have hpa := h.2.1 j p hQ
  refine ⟨by rw [locA_same Q j hj p p' hQ h1 h2]; exact foot_heap hF h.1 hpa.1.loc, fun i q hq => ?_, fun i i' q q' hne hq hq' x hx => ?_⟩
  · unfold upd at hq
    by_cases e : i = j
    · rw [if_pos e] at hq; cases hq; exact ⟨hp, ha⟩
    · rw [if_neg e] at hq
      have := h.2.1 i q hq
      exact ⟨at_foot this.1 hF (h.2.2 i j q p e hq hQ), agree_more this.2⟩
  · unfold upd at hq hq'
    by_cases e : i = j
    · rw [if_pos e] at hq; cases hq
      rw [if_neg (fun e' => hne (e.trans e'.symm))] at hq'
      intro hx'
      rcases hn x hx with h3 | h3
      · exact h.2.2 j i' p q' (fun e' => hne (e.trans e')) hQ hq' x h3 hx'
      · have := at_lt (h.2.1 i' q' hq').1 hx'
        omega
    · rw [if_neg e] at hq
      by_cases e' : i' = j
      · rw [if_pos e'] at hq'; cases hq'
        intro hx'
        rcases hn x hx' with h3 | h3
        · exact h.2.2 i j q p e hq hQ x hx h3
        · have := at_lt (h.2.1 i q hq).1 hx
          omega
      · rw [if_neg e'] at hq'
        exact h.2.2 i i' q q' hne hq hq' x hx

theorem below_foot {B : Nat} {u v w : World} {F : Nat → Prop} (h : Below B u v) (k : Foot F v w) (hB : B ≤ v.heap.size) (hF : ∀ x, F x → B ≤ x) : Below B u w :=
  ⟨k.os.trans h.os, k.tape.trans h.tape, k.output.trans h.output, Nat.le_trans h.size k.size, fun i hi => (k.block i (by omega) (fun q => by have := hF i q; omega)).trans (h.block i hi)⟩

/-- Where plays stands at a round's head. -/
def PlaysRel (w : World) (n : Nat) (i : Value) (wr : World) : Prop :=
  ∃ (k : Nat) (Q : Nat → Option PS), k ≤ n ∧ i = .int .i64 k ∧ Below w.heap.size w wr ∧ Places w.heap.size w.heap.size k Q wr

set_option maxRecDepth 100000 in
set_option maxHeartbeats 8000000 in
theorem plays_any (q : Option Addr) (n cap : Nat) (f : Nat → OpR) (sel : Int) (w : World) (hst : OpsAt w q n f) (hn : (n + 2) * 16 ≤ 140737488355328) :
    Calls Try.prog 24 #[.slice q n cap, .int .i64 sel] w fun e w' => e = .returned (.bool true) ∧ Below w.heap.size w w' := by
  have HST := Lib.hid hst
  have HN := Lib.hid hn
  have hn' : (n : Int) ≤ 9223372036854775807 := by omega
  clear hst hn
  go_enter Try.func24, Try.ntmps24
  go_wp2_with fail
  go_loopw [6] (PlaysRel w n) (fun i _ => n - (intOf i).toNat)
  case atStart => exact ⟨0, fun _ => none, Nat.zero_le _, rfl, (Below.refl _ _).alloc (Nat.le_refl _) _, ⟨heap_alloc_at w _, ⟨(by intro j p h; cases h), (by intro j j' p p' _ h; cases h)⟩⟩⟩
  case round =>
    obtain ⟨k, Q, hk, rfl, hB, hP⟩ := hrel
    have HB := Lib.hid hB
    have HP := Lib.hid hP
    have hlbz : w.heap.size < wr.heap.size := lt_of_heap hP.1
    by_cases hlt : k < n
    · obtain ⟨b, off, rfl, hbl, d0, d1, d2, d3, d4, d5, d6, d7, gn, gw, gw', gm, gs⟩ := HST.out k hlt
      rw [← hB.cell (by simpa using hbl)] at d0 d1 d2 d3 d4 d5 d6 d7
      have hbr : b < wr.heap.size := by omega
      have GS := Lib.hid (And.intro gn (And.intro gw (And.intro gw' (And.intro gm gs))))
      clear hB hP gn gw gw' gm gs
      have hk1 : (k : Int) < (n : Int) := by omega
      have hlen : (k + 2) * 16 ≤ 140737488355328 := by have := HN.out; omega
      have HLEN := Lib.hid hlen
      clear hlen
      by_cases hpl : 0 ≤ (f k).place ∧ (f k).place ≤ 2
      · obtain ⟨j, hj, hj3⟩ : ∃ j : Nat, (f k).place = (j : Int) ∧ j < 3 := ⟨(f k).place.toNat, by omega, by omega⟩
        rw [hj] at d1
        have hj0 : (0 : Int) ≤ (j : Int) := by omega
        have hj2 : (j : Int) ≤ 2 := by omega
        clear hpl hj
        cases q1 : ((f k).kind == 1)
        · cases q2 : ((f k).kind == 2)
          · have hcv : wr.cell? ⟨w.heap.size, j * 2, none⟩ = some (cv (Q j)) := by simp only [World.cell?, HP.out.1]; exact locA_c Q j hj3
            cases hQ : Q j with
            | none =>
              rw [hQ] at hcv
              unfold cv at hcv
              have HQ := Lib.hid hQ
              clear hQ
              go_wp2_with fail
              exact ⟨⟨k + 1, Q, by omega, by go_num, HB.out.alloc (Nat.le_of_lt hlbz) _, places_more (places_below HP.out ((Below.refl _ _).alloc (Nat.le_refl _) _))⟩, by simp [intOf]; omega⟩
            | some p =>
              rw [hQ] at hcv
              unfold cv at hcv
              have HQ := Lib.hid hQ
              clear hQ
              go_wp2_with fail
              have hpa := HP.out.2.1 j p HQ.out
              have hdv : wr.cell? ⟨w.heap.size, j * 2 + 1, none⟩ = some (.pointer (some ⟨p.db, 0, none⟩)) := by
                have := locA_d Q j hj3
                rw [HQ.out] at this
                simp only [World.cell?, HP.out.1]; exact this
              refine (told_any p w.heap.size w.heap.size (j * 2) k (f k).kind j (f k).node (f k).win (f k).num (f k).s0 (f k).s1 (f k).s2 _ (at_foot (F := fun _ => False) hpa.1 ((Foot.refl _ _).alloc _) (fun _ _ => id)) hpa.2 (by simp; omega) (by simp; omega)
                (foot_cell (F := fun _ => False) ((Foot.refl _ _).alloc _) hcv id) (foot_cell (F := fun _ => False) ((Foot.refl _ _).alloc _) hdv id) GS.out.2.2.2.1 GS.out.2.2.2.2 HLEN.out).mono ?_
              rintro e w1 ⟨p', rfl, hF, hp, ha, h1, h2, hnew⟩
              have HP1 := Lib.hid (places_told hj3 (places_below HP.out ((Below.refl _ _).alloc (Nat.le_refl _) _)) HQ.out hF hp ha h1 h2 hnew)
              have HB1 := Lib.hid (below_foot (HB.out.alloc (Nat.le_of_lt hlbz) _) hF (by simp; omega) (fun x hx => by have := hpa.1.base; rcases hx with e | e | e | e | e <;> omega))
              clear hF hp ha h1 h2 hnew hpa hdv
              go_wp2_with fail
              exact ⟨⟨k + 1, upd Q j p', by omega, by go_num, HB1.out, HP1.out⟩, by simp [intOf]; omega⟩
          · go_wp2_with fail
            obtain ⟨gn, gw, gw', gm, gs⟩ := GS.out
            refine (made_re w.heap.size w.heap.size (j * 2) (locA Q) (cv (Q j)) (dv (Q j)) (f k).kind j (f k).node (f k).win (f k).num (f k).s0 (f k).s1 (f k).s2 _ (heap_alloc_old HP.out.1 _) (by simp; omega) (locA_c Q j hj3) (locA_d Q j hj3) gn gw gw' gm q1).mono ?_
            rintro e w1 ⟨p, rfl, hF, hp, ha, hnew, hl⟩
            have HP1 := Lib.hid (places_made hj3 (places_below HP.out ((Below.refl _ _).alloc (Nat.le_refl _) _)) hF hp ha hnew hl)
            have HB1 := Lib.hid (below_foot (HB.out.alloc (Nat.le_of_lt hlbz) _) hF (by simp; omega) (fun x hx => Nat.le_of_eq hx.symm))
            clear hF hp ha hnew hl gn gw gw' gm gs
            go_wp2_with fail
            exact ⟨⟨k + 1, upd Q j p, by omega, by go_num, HB1.out, HP1.out⟩, by simp [intOf]; omega⟩
        · go_wp2_with fail
          obtain ⟨gn, gw, gw', gm, gs⟩ := GS.out
          refine (made_new w.heap.size w.heap.size (j * 2) (locA Q) (cv (Q j)) (dv (Q j)) (f k).kind j (f k).node (f k).win (f k).num (f k).s0 (f k).s1 (f k).s2 _ (heap_alloc_old HP.out.1 _) (by simp; omega) (locA_c Q j hj3) (locA_d Q j hj3) gn gw gw' q1).mono ?_
          rintro e w1 ⟨p, rfl, hF, hp, ha, hnew, hl⟩
          have HP1 := Lib.hid (places_made hj3 (places_below HP.out ((Below.refl _ _).alloc (Nat.le_refl _) _)) hF hp ha hnew hl)
          have HB1 := Lib.hid (below_foot (HB.out.alloc (Nat.le_of_lt hlbz) _) hF (by simp; omega) (fun x hx => Nat.le_of_eq hx.symm))
          clear hF hp ha hnew hl gn gw gw' gm gs
          go_wp2_with fail
          exact ⟨⟨k + 1, upd Q j p, by omega, by go_num, HB1.out, HP1.out⟩, by simp [intOf]; omega⟩
      · go_wp2_with fail
        all_goals exact ⟨⟨k + 1, Q, by omega, by go_num, HB.out.alloc (Nat.le_of_lt hlbz) _, places_more (places_below HP.out ((Below.refl _ _).alloc (Nat.le_refl _) _))⟩, by simp [intOf]; omega⟩
    · clear hB hP
      go_wp2_with fail
      go_ret
      exact ⟨rfl, HB.out⟩

end Go.Proofs.Ytlgkolmlcbfppaa
