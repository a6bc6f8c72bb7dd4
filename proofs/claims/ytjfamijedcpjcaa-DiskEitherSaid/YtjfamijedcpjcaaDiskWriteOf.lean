/- WriteOf: the reference's -/
import Derived.Test.YtjfamijedcpjcaaDiskRefs3
import Derived.Test.YtjfamijedcpjcaaDiskWrite
import Derived.Test.YtjfamijedcpjcaaStep
namespace Go.Proofs.Ytjfamijedcpjcaa.DiskP
open Go.RowKit K

set_option maxRecDepth 100000 in
set_option maxHeartbeats 1000000 in
theorem writeof_any (p : List ByteArray) (q : List Wr) (d : Value) (n : Int) (s : ByteArray) (w : World) (hd : IsDisk w d p q) :
    Calls Try.prog 13 #[d, .int .i64 n, .string s] w fun e w' => ∃ u, e = .returned (.tuple #[u, .int .i64 (writeE p q n s)]) ∧
      IsDisk w' u (writeP p q n s) (writeQ p q n s) ∧ Below w.heap.size w w' := by
  obtain ⟨vp, vq, rfl, hsp, hsq⟩ := id hd
  obtain ⟨_, a, cap, rfl, _, _, _, _⟩ := id hsp
  obtain ⟨_, a', cap', rfl, _, _, _, _⟩ := id hsq
  have hW0 := alloc_below w (.cells #[Value.slice a p.length cap, Value.slice a' q.length cap'] 25)
  have hW1 := alloc_below (w.alloc (.cells #[Value.slice a p.length cap, Value.slice a' q.length cap'] 25)) (.cells #[.slice none 0 0, .slice none 0 0] 25)
  have hW := chain hW0 hW1
  have hB := (Res2.new w (Value.slice a p.length cap) (Value.slice a' q.length cap') 25).later hW1 (by simp)
  have hR := Res2.new (w.alloc (.cells #[Value.slice a p.length cap, Value.slice a' q.length cap'] 25)) (.slice none 0 0) (.slice none 0 0) 25
  rw [World.size_alloc] at hR
  have hz : w.heap.size + 1 < ((w.alloc (.cells #[Value.slice a p.length cap, Value.slice a' q.length cap'] 25)).alloc (.cells #[.slice none 0 0, .slice none 0 0] 25)).heap.size := by simp
  have hQ := Lib.hid (And.intro hsp hsq)
  have hck := diskcheck_any p q _ _ (hd.later hW (Nat.le_refl _))
  clear hd hsp hsq hW0 hW1
  go_enter Try.func13, Try.ntmps13
  go_wp2_with fail
  generalize ((w.alloc (.cells #[Value.slice a p.length cap, Value.slice a' q.length cap'] 25)).alloc (.cells #[.slice none 0 0, .slice none 0 0] 25)) = W at *
  refine hck.mono ?_
  rintro e W1 ⟨rfl, hb1⟩
  have hz1 := Nat.lt_of_lt_of_le hz hb1.size
  have hB1 := hB.later hb1 (by omega)
  have hR1 := hR.later hb1 hz
  have hW1 := chain hW hb1
  clear hB hR hz hb1 hW hck
  obtain ⟨c0, c1, g0, g1⟩ := id hB1
  obtain ⟨d0, d1, f0, f1⟩ := id hR1
  by_cases hce : check p q = 0
  · have HE := Lib.hid (show writeE p q n s = if inPlace n = false then 3 else if tooLong s = true ∨ q.length = 48 then 2 else 0 by unfold writeE; rw [if_neg (by simpa using hce)])
    have hq48 := (check_ok p q hce).2.2.2.1
    have hp32 := (check_ok p q hce).1
    rw [hce]
    clear hce
    by_cases hn : 0 ≤ n ∧ n < 32
    · have HE := Lib.hid (HE.out.trans (if_neg (by rw [inPlace_t hn]; decide)))
      obtain ⟨n0, n1⟩ := hn
      by_cases hl : 260 < s.size
      · have HE := Lib.hid (HE.out.trans (if_pos (.inl (decide_eq_true hl))))
        go_wp2_with fail
        refine bodyPost_ret (v := .tuple #[.agg #[.slice none 0 0, .slice none 0 0], .int .i64 2]) (by simp [results, Try.results13, go_sem, d0, d1]) rfl ⟨_, by rw [HE.out], (ownNo (by rw [HE.out]; decide) _ 0).is, (hW1.setCell (by simp <;> omega) _).setCell (by simp <;> omega) _⟩
      · by_cases h48 : q.length = 48
        · have HE := Lib.hid (HE.out.trans (if_pos (.inr h48)))
          have hb : ((q.length : Int) == 48) = true := by rw [h48]; rfl
          clear h48
          go_wp2_with fail
          refine bodyPost_ret (v := .tuple #[.agg #[.slice none 0 0, .slice none 0 0], .int .i64 2]) (by simp [results, Try.results13, go_sem, d0, d1]) rfl ⟨_, by rw [HE.out], (ownNo (by rw [HE.out]; decide) _ 0).is, (hW1.setCell (by simp <;> omega) _).setCell (by simp <;> omega) _⟩
        · have HE := Lib.hid (HE.out.trans (if_neg (by unfold tooLong; simp; omega)))
          have hb : ((q.length : Int) == 48) = false := beq_eq_false_iff_ne.2 (by omega)
          clear h48
          go_wp2_with fail
          have hone : ∀ u ∈ wrCells q, u.oneCell' = true := fun u hu => by
            obtain ⟨x, _, hx⟩ := List.mem_flatMap.1 hu
            exact writeOf_one x u hx
          have HONE := Lib.hid hone
          clear hone
          go_region_held3 (fun W' => W'.cell? ⟨w.heap.size, 0, none⟩ = some (Value.slice a p.length cap) ∧ W'.cell? ⟨w.heap.size, 1, none⟩ = some (Value.slice a' q.length cap'))
            (first | go_keep | exact ⟨RB3.1, RB3.2.1⟩ | exact ⟨RB4.1, RB4.2.1⟩)
            (first
              | ((refine step_spread elWrites (.tmp 40) (.tmp 42) (by rfl) (by rfl) (.slice (some ⟨_, 0, none⟩) 0 0) 0 [] (by rfl) (by first | exact own_built (B := W1.heap.size) [] 0 2 (by first | omega | (simp; done) | (simp; omega)) (by decide) rfl | exact (own_built (B := W1.heap.size) [] 0 2 (by first | omega | (simp; done) | (simp; omega)) (by decide) rfl).alloc _ | exact own_built' (B := W1.heap.size) [] 0 2 _ (by simp) (by first | omega | (simp; done) | (simp; omega)) (by decide) rfl | exact own_drew (own_built' (B := W1.heap.size) [] 0 2 _ (by simp) (by first | omega | (simp; done) | (simp; omega)) (by decide) rfl)) (by first | omega | (simp; done) | (simp; omega)) _ q.length (wrCells q) (by rfl) (hQ.out.2.later (B := w.heap.size) (by repeat (first | exact hW1 | refine Below.drew ?_ | refine Below.alloc ?_ (by first | omega | (simp; done) | (simp; omega)) _)) (Nat.le_refl _)) HONE.out (by omega) ?_; intro b3 k3 w3 hown3 hgr3
                  have hown3 : w3.ownsRow W1.heap.size 43 2 (.slice b3 q.length k3) q.length (wrCells q) := by simpa using hown3
                  have RB3 := (hB1.later (by repeat (first | exact Below.refl _ _ | refine Below.drew ?_ | refine Below.alloc ?_ (by first | omega | (simp; done) | (simp; omega)) _)) (by omega)).grown' hgr3 (by rw [Value.ownBlock]; intro e; have e := Option.some.inj e; first | omega | (simp at e; omega)) (by first | omega | (simp; done) | (simp; omega))
                  have RR3 := (hR1.later (by repeat (first | exact Below.refl _ _ | refine Below.drew ?_ | refine Below.alloc ?_ (by first | omega | (simp; done) | (simp; omega)) _)) (by omega)).grown' hgr3 (by rw [Value.ownBlock]; intro e; have e := Option.some.inj e; first | omega | (simp at e; omega)) (by first | omega | (simp; done) | (simp; omega))
                  have hz31 : W1.heap.size ≤ w3.heap.size := by have := hgr3.size; first | omega | (simp at this; omega)
                  have hz3 : w.heap.size + 1 < w3.heap.size := by have := hgr3.size; first | omega | (simp at this; omega)
                  obtain ⟨m0, m1, o0, o1⟩ := id RB3
                  obtain ⟨r0, r1, s0, s1⟩ := id RR3
                  have hb3 : Below w.heap.size w w3 := Below.grown (by repeat (first | exact hW1 | refine Below.drew ?_ | refine Below.alloc ?_ (by first | omega | (simp; done) | (simp; omega)) _)) hgr3 (by first | omega | (simp; done) | (simp; omega)) (fun k hk => by simp [Value.ownBlock] at hk; omega)))
              | ((refine step_spread elWrites (.tmp 43) (.tmp 47) (by rfl) (by rfl) (.slice b3 q.length k3) q.length (wrCells q) (by simp [Act.eval]) (by first | exact hown3 | exact hown3.alloc _) (by first | omega | (simp; done) | (simp; omega)) _ 1 [.int .i64 n, .string s] (by rfl) (by first
                    | exact Seen.of_own (own_built' (B := 0) [.int .i64 n, .string s] 1 2 _ (by simp) (by simp) (by decide) rfl)
                    | exact Seen.of_own ((own_drew (own_built' (B := 0) [.int .i64 n, .string s] 1 2 _ (by simp) (by simp) (by decide) rfl)).kept hgr3 (.inr (by simp [Value.ownBlock])))
                    | exact Seen.of_own ((own_drew ((own_built' (B := 0) [.int .i64 n, .string s] 1 2 _ (by simp) (by simp) (by decide) rfl).alloc _)).kept hgr3 (.inr (by simp [Value.ownBlock])))) (by intro u hu; simp at hu; rcases hu with rfl | rfl <;> rfl) (by omega) ?_; intro b4 k4 w4 hown4 hgr4
                  have RB4 := (RB3.later (by repeat (first | exact Below.refl _ _ | refine Below.drew ?_ | refine Below.alloc ?_ (by first | omega | (simp; done) | (simp; omega)) _)) (by omega)).grown (by first | exact hown3 | exact hown3.alloc _) hgr4 (by first | omega | (simp; done) | (simp; omega)) (by first | omega | (simp; done) | (simp; omega))
                  have RR4 := (RR3.later (by repeat (first | exact Below.refl _ _ | refine Below.drew ?_ | refine Below.alloc ?_ (by first | omega | (simp; done) | (simp; omega)) _)) (by omega)).grown (by first | exact hown3 | exact hown3.alloc _) hgr4 (by first | omega | (simp; done) | (simp; omega)) (by first | omega | (simp; done) | (simp; omega))
                  have hz4 : w.heap.size + 1 < w4.heap.size := by have := hgr4.size; first | omega | (simp at this; omega)
                  obtain ⟨m0', m1', o0', o1'⟩ := id RB4
                  obtain ⟨r0', r1', s0', s1'⟩ := id RR4
                  have hb4 : Below w.heap.size w w4 := Below.grown (by repeat (first | exact hb3 | refine Below.drew ?_ | refine Below.alloc ?_ (by first | omega | (simp; done) | (simp; omega)) _)) hgr4 (by first | omega | (simp; done) | (simp; omega)) (fun k hk => Nat.le_trans (by omega) (hown3.lt k hk).1))))
          all_goals
            go_wp2_with fail
            refine bodyPost_ret (v := .tuple #[.agg #[.slice a p.length cap, .slice b4 (q.length + 1) k4], .int .i64 0]) (by simp [results, Try.results13, go_sem, r0', r1']) rfl ⟨_, by rw [HE.out], ?_, (hb4.setCell (by simp <;> omega) _).setCell (by simp <;> omega) _⟩
            rw [(writeP_yes HE.out).1, (writeP_yes HE.out).2]
            refine ⟨_, _, rfl, hQ.out.1.later ((hb4.setCell (by simp <;> omega) _).setCell (by simp <;> omega) _) (Nat.le_refl _), ?_⟩
            have e : wrCells (q ++ [(n, s)]) = wrCells q ++ [.int .i64 n, .string s] := wrCells_snoc q (n, s)
            rw [e, List.length_append]
            exact Seen.of_own (own_set (own_set hown4 (by simp <;> omega) _) (by simp <;> omega) _)
    · have HE := Lib.hid (HE.out.trans (if_pos (inPlace_f hn)))
      have hn' : n < 0 ∨ (0 ≤ n ∧ 31 < n) := by omega
      clear hn
      rcases hn' with hn | ⟨hn1, hn2⟩
      all_goals
        go_wp2_with fail
        refine bodyPost_ret (v := .tuple #[.agg #[.slice none 0 0, .slice none 0 0], .int .i64 3]) (by simp [results, Try.results13, go_sem, d0, d1]) rfl ⟨_, by rw [HE.out], (ownNo (by rw [HE.out]; decide) _ 0).is, (hW1.setCell (by simp <;> omega) _).setCell (by simp <;> omega) _⟩
  · have HE := Lib.hid (show writeE p q n s = check p q from if_pos hce)
    have hnz : (check p q != 0) = true := by rw [bne_iff_ne]; exact hce
    have hnz' : (check p q == 0) = false := beq_eq_false_iff_ne.2 hce
    have HNZ := Lib.hid hce
    clear hce
    go_wp2_with fail
    refine bodyPost_ret (v := .tuple #[.agg #[.slice none 0 0, .slice none 0 0], .int .i64 (check p q)]) (by simp [results, Try.results13, go_sem, d0, d1]) rfl ⟨_, by rw [HE.out], (ownNo (by rw [HE.out]; exact HNZ.out) _ 0).is, (hW1.setCell (by simp <;> omega) _).setCell (by simp <;> omega) _⟩

end Go.Proofs.Ytjfamijedcpjcaa.DiskP
