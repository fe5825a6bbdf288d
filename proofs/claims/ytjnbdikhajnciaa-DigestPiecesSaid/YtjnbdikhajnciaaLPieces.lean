/- The walk of the law that the digest does not depend on how a text is divided into pieces: any slice of texts. -/
import Derived.Test.YtjnbdikhajnciaaDq
import Derived.Lib.Hide
namespace Go.Proofs.Ytjnbdikhajnciaa.Dig
open Go.RowKit Go.Proofs.Ytjnbdikhajnciaa.Sha Go.Proofs.Ytjnbdikhajnciaa.Ord Go.Proofs.YtjnbdikhajnciaaW.PrintWords

/-- What the walk is told of a slice of texts that came in. -/
def IsStrs (w : World) (a : Option Addr) (len cap : Nat) : Prop :=
  (a = none ∧ len = 0 ∧ cap = 0) ∨
  ∃ (x : Addr) (ss : List ByteArray), a = some x ∧ len ≤ cap ∧ cap ≤ maxLen ∧ ss.length = cap ∧ (∀ i, i < ss.length → w.cell? (x.add i) = some (.string (ss.getD i ByteArray.empty))) ∧ ∀ s ∈ ss, s.size ≤ maxLen
theorem IsStrs.at {w : World} {a : Option Addr} {len cap : Nat} (h : IsStrs w a len cap) (k : Nat) (hk : k < len) :
    ∃ (x : Addr) (s : ByteArray), a = some x ∧ w.cell? (x.add k) = some (.string s) := by
  rcases h with ⟨_, h0, _⟩ | ⟨x, ss, hx, hl, _, hn, hc, _⟩
  · omega
  · exact ⟨x, _, hx, hc k (by omega)⟩

theorem below_more {B : Nat} {a w w' : World} (h : Below B a w) (hB : B ≤ w.heap.size) (k : Below w.heap.size w w') : Below B a w' := h.trans (k.mono hB)

/-- The round's world: the hash at b holds what was put. -/
structure Pn (w wr : World) (b : Nat) (l : List UInt8) : Prop where
  holds : Holds wr b l
  new : w.heap.size ≤ b
  below : Below w.heap.size w wr
theorem Pn.size {w wr : World} {b : Nat} {l : List UInt8} (h : Pn w wr b l) : w.heap.size ≤ wr.heap.size := h.below.size
theorem Pn.later {w wr w' : World} {b : Nat} {l : List UInt8} (h : Pn w wr b l) (hb : Below wr.heap.size wr w') : Pn w w' b l :=
  ⟨h.holds.below hb h.holds.lt, h.new, below_more h.below h.size hb⟩
theorem Pn.put {w wr w' : World} {b : Nat} {l l' : List UInt8} (h : Pn w wr b l) (hh : Holds w' b l') (hg : wr.grownBy w' (some b)) : Pn w w' b l' :=
  ⟨hh, h.new, h.below.grown hg h.size (fun k hk => by injection hk with hk; have := h.new; omega)⟩
/-- The digest by its own name. -/
def sumT (l : List UInt8) : ByteArray := ⟨(sum l).toArray⟩

set_option maxRecDepth 100000 in
set_option maxHeartbeats 8000000 in
theorem digestPieces_walk (a : Option Addr) (len cap : Nat) (w : World) (h : IsStrs w a len cap) :
    Calls Try.prog 4 #[.slice a len cap] w fun e w' => e = .returned (.bool true) ∧ Below w.heap.size w w' := by
  have H := Lib.hid h
  clear h
  by_cases hs : (len : Int) > 100
  · go_enter Try.func4, Try.ntmps4
    go_wp2_with fail
    refine (lives_any _).mono ?_
    rintro e w1 ⟨rfl, hb1⟩
    go_wp2_with fail
    go_ret
    exact ⟨rfl, hb1⟩
  · go_enter Try.func4, Try.ntmps4
    go_wp2_with fail
    refine (new_holds _).mono ?_
    rintro e w1 ⟨b, rfl, hbge, hH, hb1⟩
    have hP0 : Pn w w1 b [] := ⟨hH, hbge, hb1⟩
    clear hH hb1
    go_wp2_with fail
    go_loopw [4, 5] (fun v i wr => ∃ (k : Nat) (t : ByteArray), k ≤ len ∧ i = .int .i64 k ∧ v = .string t ∧ t.size ≤ 22000 ∧ Pn w wr b t.data.toList) (fun _ i _ => len - (intOf i).toNat)
    case atStart => exact ⟨0, ⟨#[]⟩, by omega, rfl, rfl, by decide, hP0⟩
    case round =>
      clear hP0
      obtain ⟨k, t, hk, rfl, rfl, ht, hP⟩ := hrel
      by_cases hlt : k < len
      · obtain ⟨x, s, rfl, hc⟩ := H.out.at k hlt
        have kb : (k : Int) < (len : Int) := by omega
        have hcr : wr.cell? (x.add k) = some (.string s) := (hP.below.cell (World.block_lt_of_cell? w _ hc)).trans hc
        by_cases hbig : (s.size : Int) > 2000
        · go_wp2_with fail
          refine (lives_any _).mono ?_
          rintro e w2 ⟨rfl, hb2⟩
          have hP2 := hP.later hb2
          go_wp2_with fail
          go_ret
          exact ⟨rfl, hP2.below⟩
        · by_cases hbig2 : (t.size : Int) > 20000
          · go_wp2_with fail
            refine (lives_any _).mono ?_
            rintro e w2 ⟨rfl, hb2⟩
            have hP2 := hP.later hb2
            go_wp2_with fail
            go_ret
            exact ⟨rfl, hP2.below⟩
          · go_wp2_with fail
            refine (put_holds b t.data.toList s _ hP.holds (by simp; omega) (by omega)).mono ?_
            rintro e w2 ⟨rfl, hH2, hg2⟩
            have hP2 : Pn w w2 b (t ++ s).data.toList := by rw [append_data]; exact hP.put hH2 hg2
            have hcr2 : w2.cell? (x.add k) = some (.string s) := (hP2.below.cell (World.block_lt_of_cell? w _ hc)).trans hc
            have hts : (t ++ s).size = t.size + s.size := by simp
            have hts2 : (t ++ s).size ≤ 22000 := by omega
            have kadd : ¬ (9223372036854775807 < t.size + s.size) := by omega
            have HTS := Lib.hid hts
            clear hts hH2 hg2 hP hcr hc
            by_cases h3 : (k : Int) % 3 = 1
            · go_wp2_with fail
              obtain ⟨q, hq⟩ : ∃ q : ByteArray, q = ⟨(sum (t ++ s).data.toList).toArray⟩ := ⟨_, rfl⟩
              have hl : (t ++ s).data.toList.length ≤ 800000 := by have : (t ++ s).data.toList.length = (t ++ s).size := by simp
                                                                   omega
              have c1 := sum_holds b _ _ hP2.holds hl
              have c2 := sum_any (t ++ s) (by omega)
              rw [← hq] at c1 c2
              have C2 := Lib.hid c2
              clear c2 hl hq
              refine c1.mono ?_
              clear c1
              rintro e w3 ⟨rfl, hb3⟩
              have hP3 := hP2.later hb3
              go_wp2_with fail
              refine (C2.out _).mono ?_
              rintro e w4 ⟨rfl, hb4⟩
              have hP4 := hP3.later hb4
              clear C2 hP2 hP3 hcr2
              go_wp2_with fail
              go_roundw
              case rel => exact ⟨k + 1, t ++ s, by omega, by simp, rfl, hts2, hP4⟩
              case measure => simp only [intOf]; omega
            · go_wp2_with fail
              go_roundw
              case rel => exact ⟨k + 1, t ++ s, by omega, by simp, rfl, hts2, hP2⟩
              case measure => simp only [intOf]; omega
      · obtain ⟨q, hq⟩ : ∃ q : ByteArray, q = ⟨(sum t.data.toList).toArray⟩ := ⟨_, rfl⟩
        have hl : t.data.toList.length ≤ 800000 := by have : t.data.toList.length = t.size := by simp
                                                      omega
        have c1 := fun w' (h : Holds w' b t.data.toList) => sum_holds b _ w' h hl
        have c2 := sum_any t (by omega)
        have c3 := fun w' (h : Holds w' b t.data.toList) => len_holds b _ w' h
        have hlen : t.data.toList.length = t.size := by simp
        rw [← hq] at c1 c2
        rw [hlen] at c3
        have C1 := Lib.hid c1
        have C2 := Lib.hid c2
        have C3 := Lib.hid c3
        clear c1 c2 c3 hl hq hlen
        have kb : ¬ ((k : Int) < (len : Int)) := by omega
        go_wp2_with fail
        refine (C1.out _ hP.holds).mono ?_
        rintro e w2 ⟨rfl, hb2⟩
        have hP2 := hP.later hb2
        go_wp2_with fail
        refine (C2.out _).mono ?_
        rintro e w3 ⟨rfl, hb3⟩
        have hP3 := hP2.later hb3
        go_wp2_with fail
        refine (C3.out _ hP3.holds).mono ?_
        rintro e w4 ⟨rfl, rfl⟩
        go_wp2_with fail
        refine (C1.out _ hP3.holds).mono ?_
        rintro e w4 ⟨rfl, hb4⟩
        have hP4 := hP3.later hb4
        go_wp2_with fail
        refine (C2.out _).mono ?_
        rintro e w5 ⟨rfl, hb5⟩
        have hP5 := hP4.later hb5
        go_wp2_with fail
        refine (lives_any _).mono ?_
        rintro e w6 ⟨rfl, hb6⟩
        have hP6 := hP5.later hb6
        go_wp2_with fail
        go_ret
        exact ⟨rfl, hP6.below⟩
end Go.Proofs.Ytjnbdikhajnciaa.Dig
