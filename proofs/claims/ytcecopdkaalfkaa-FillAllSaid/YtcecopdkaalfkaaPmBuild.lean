/- strings.Builder: its methods. -/
import Derived.Test.YtcecopdkaalfkaaPmHand
import Derived.Lib.Hide
namespace Go.Proofs.Ytcecopdkaalfkaa.Pm
open Go.RowKit
set_option linter.unusedVariables false
set_option linter.unusedSimpArgs false
set_option maxRecDepth 100000

abbrev nilP : D := .c (.v (.pointer none))
abbrev nilS : D := .c (.v (.slice none 0 0))
abbrev tBld : Nat := 47
abbrev tByte : Nat := 5

theorem same_noescape : sameX Try.prog 54 := ⟨_, Try.func54, by kernel_rfl, by kernel_rfl, by kernel_rfl, by kernel_rfl⟩

theorem copyCheck_fresh : CallS Try.prog 41 [.d (.ptr FK 0)] [] [(FK, .box tBld [nilP, nilS])] (.tup []) [(FK, .box tBld [.ptr FK 0, nilS])] := by
  refine callS_of Try.func41 (by rfl) rfl (by kernel_rfl) (by rfl) [FK] rfl ?_
  conv => whnf
  refine BCase.t rfl ?_
  conv => whnf
  refine CallP.same _ same_noescape rfl ?_
  conv => whnf
  refine RetS.mk [(FK, FK)] [FK] rfl rfl ?_ ?_ <;> (repeat' (first | exact rfl | exact trivial | exact Or.inl rfl | refine And.intro ?_ ?_))
theorem copyCheck_used (l : List (List C)) : CallS Try.prog 41 [.d (.ptr FK 0)] [(FK, .box tBld [.ptr FK 0, .app FK1 tByte 1 l]), (FK1, .tail tByte 1)] [] (.tup []) [] := by
  refine callS_of Try.func41 (by rfl) rfl (by kernel_rfl) (by rfl) [FK, FK1] rfl ?_
  conv => whnf
  refine BCase.f rfl ?_
  conv => whnf
  refine BCase.f rfl ?_
  conv => whnf
  refine RetS.mk [(FK, FK), (FK1, FK1)] [FK, FK1] rfl rfl ?_ ?_ <;> (repeat' (first | exact rfl | exact trivial | exact Or.inl rfl | refine And.intro ?_ ?_))
theorem copyCheck_nil (l : List (List C)) : CallS Try.prog 41 [.d (.ptr FK 0)] [(FK1, .tail tByte 1)] [(FK, .box tBld [nilP, .app FK1 tByte 1 l])] (.tup []) [(FK, .box tBld [.ptr FK 0, .app FK1 tByte 1 l])] := by
  refine callS_of Try.func41 (by rfl) rfl (by kernel_rfl) (by rfl) [FK1, FK] rfl ?_
  conv => whnf
  refine BCase.t rfl ?_
  conv => whnf
  refine CallP.same _ same_noescape rfl ?_
  conv => whnf
  refine RetS.mk [(FK, FK), (FK1, FK1)] [FK, FK1] rfl rfl ?_ ?_ <;> (repeat' (first | exact rfl | exact trivial | exact Or.inl rfl | refine And.intro ?_ ?_))

/-- bytes of a text as rows -/
abbrev bRows (s : ByteArray) : List (List C) := byteRows s.data.toList

theorem writeString_fresh (s : ByteArray) (hs : s.size ≤ 140737488355328) : CallS Try.prog 19 [.d (.ptr FK 0), pStr s] [] [(FK, .box tBld [nilP, nilS])] (.tup [pInt .i64 s.size, .d (.c (.v .nilIface))]) [(FK, .box tBld [.ptr FK 0, .app NK tByte 1 (bRows s)]), (NK, .tail tByte 1)] := by
  refine callS_of Try.func19 (by rfl) rfl (by kernel_rfl) (by rfl) [FK] rfl ?_
  conv => whnf
  refine CallP.ret [(FK, FK)] _ _ _ _ _ _ _ copyCheck_fresh rfl rfl rfl rfl ⟨rfl, trivial⟩ ?_
  conv => whnf
  refine Need.mk (by show s.size * 1 ≤ _; omega) ?_
  conv => whnf
  refine RetS.mk [(FK, FK), (NK, 14)] [FK, NK] rfl rfl ?_ ?_ <;> (repeat' (first | exact rfl | exact trivial | exact Or.inl rfl | refine And.intro ?_ ?_))
/-! ### an address that is nil or not -/
theorem fz_swap {c : Ctx} {σ : Sg} {h h' : Hp} {hs k T T' : Nat} {l l' : List D} (hk : h k = some (.box T l)) (hk' : h' k = some (.box T' l')) (ho : ∀ j, j ≠ k → h' j = h j) : Fz c σ h' hs = Fz c σ h hs := by
  funext b o
  unfold Fz
  apply propext
  refine or_congr_right (and_congr_right fun _ => and_congr_right fun _ => ⟨fun q j m hb h1 h2 => ?_, fun q j m hb h1 h2 => ?_⟩)
  · by_cases hj : j = k
    · subst hj; exact (q j m _ hk' h2).elim
    · exact q j m hb (by rw [ho j hj]; exact h1) h2
  · by_cases hj : j = k
    · subst hj; exact (q j m _ hk h2).elim
    · exact q j m hb (by rw [← ho j hj]; exact h1) h2
theorem sw_swap {c : Ctx} {σ : Sg} {h h' : Hp} {w : World} {k T : Nat} {l l' : List D} (hs : SW c σ h w) (hk : h k = some (.box T l)) (hk' : h' k = some (.box T l')) (ho : ∀ j, j ≠ k → h' j = h j)
    (hok : HbOk σ (fz c σ h w) w c.own k (.box T l')) : SW c σ h' w ∧ fz c σ h' w = fz c σ h w := by
  have hf : Fz c σ h' w.heap.size = Fz c σ h w.heap.size := fz_swap hk hk' ho
  refine ⟨⟨hs.os, hs.tape, hs.output, hs.size, hs.block, fun j hb hj => ?_, fun j j' g n n' h1 h2 => hs.inj j j' g n n' ?_ ?_, by rw [hf]; exact hs.kept, hs.shape, hs.sg0⟩, hf⟩
  · rw [hf]
    by_cases hjk : j = k
    · subst hjk; rw [hk'] at hj; cases hj; exact hok
    · exact hs.hp j hb (by rw [← ho j hjk]; exact hj)
  · by_cases hjk : j = k
    · subst hjk; rw [hk]; simp
    · rw [← ho j hjk]; exact h1
  · by_cases hjk : j' = k
    · subst hjk; rw [hk]; simp
    · rw [← ho j' hjk]; exact h2
theorem CallS.opt {P : Program} {f : FuncId} {args : List PV} {K T K' o : Nat} {l : List D} {rf out : Rf} {res : PV}
    (h1 : CallS P f args [] ((K, .box T (nilP :: l)) :: rf) res out) (h2 : CallS P f args [] ((K, .box T (.ptr K' o :: l)) :: rf) res out) :
    CallS P f args [] ((K, .box T (.optp K' o :: l)) :: rf) res out := by
  refine ⟨h1.1, fun c vs hc hdf hf hs ha => ?_⟩
  have hat : ∀ b, hpL ([] ++ (K, b) :: rf) K = some b := fun b => by unfold hpL; rw [List.nil_append]; simp
  have hoth : ∀ b b' j, j ≠ K → hpL ([] ++ (K, b) :: rf) j = hpL ([] ++ (K, b') :: rf) j := fun b b' j hj => by
    simp only [List.nil_append, hpL]
    have : Nat.beq j K = false := by rw [Bool.eq_false_iff]; intro e; exact hj (Nat.eq_of_beq_eq_true e)
    rw [this]; rfl
  obtain ⟨g, n, cs, e1, e2, e3, e4⟩ := hs.hp K _ (hat _)
  cases hcs : cs.toList with
  | nil => rw [hcs] at e4; unfold DsRep at e4; exact e4.elim
  | cons u us =>
    rw [hcs] at e4
    unfold DsRep at e4
    obtain ⟨e4, e5⟩ := e4
    unfold DRep at e4
    rcases e4 with rfl | ⟨g', n', q1, q2⟩
    · obtain ⟨r1, r2⟩ := sw_swap (l' := nilP :: l) hs (hat _) (hat _) (fun j hj => hoth _ _ j hj) ⟨g, n, cs, e1, e2, e3, by
        rw [hcs]; unfold DsRep; exact ⟨by unfold DRep CRep; exact ⟨rfl, rfl⟩, e5⟩⟩
      exact h1.2 c vs hc hdf (fun k hk => hf k hk) r1 (by rw [r2]; exact ha)
    · obtain ⟨r1, r2⟩ := sw_swap (l' := .ptr K' o :: l) hs (hat _) (hat _) (fun j hj => hoth _ _ j hj) ⟨g, n, cs, e1, e2, e3, by
        rw [hcs]; unfold DsRep; exact ⟨by unfold DRep; exact ⟨g', n', q1, q2⟩, e5⟩⟩
      exact h2.2 c vs hc hdf (fun k hk => hf k hk) r1 (by rw [r2]; exact ha)

theorem writeString_used (l : List (List C)) (s : ByteArray) (hs : l.length + s.size ≤ 140737488355328) : CallS Try.prog 19 [.d (.ptr FK 0), pStr s] [] [(FK, .box tBld [.ptr FK 0, .app FK1 tByte 1 l]), (FK1, .tail tByte 1)] (.tup [pInt .i64 s.size, .d (.c (.v .nilIface))]) [(FK, .box tBld [.ptr FK 0, .app NK tByte 1 (l ++ bRows s)]), (NK, .tail tByte 1)] := by
  refine callS_of Try.func19 (by rfl) rfl (by kernel_rfl) (by rfl) [FK, FK1] rfl ?_
  ((conv => whnf); repeat ((first | with_reducible refine BCase.tt ?_ | with_reducible refine BCase.ff ?_); (conv => whnf)))
  refine CallP.ret [(FK, FK), (FK1, FK1)] _ _ _ _ _ _ _ (copyCheck_used l) rfl rfl rfl rfl ⟨rfl, rfl, trivial⟩ ?_
  ((conv => whnf); repeat ((first | with_reducible refine BCase.tt ?_ | with_reducible refine BCase.ff ?_); (conv => whnf)))
  refine Need.mk (by show _ * 1 ≤ _; omega) ?_
  ((conv => whnf); repeat ((first | with_reducible refine BCase.tt ?_ | with_reducible refine BCase.ff ?_); (conv => whnf)))
  refine RetS.mk [(FK, FK), (FK1, FK1), (NK, 14)] [FK, FK1, NK] rfl rfl ?_ ?_ <;> (repeat' (first | exact rfl | exact trivial | exact Or.inl rfl | refine And.intro ?_ ?_))
theorem writeString_nil (l : List (List C)) (s : ByteArray) (hs : l.length + s.size ≤ 140737488355328) : CallS Try.prog 19 [.d (.ptr FK 0), pStr s] [] [(FK, .box tBld [nilP, .app FK1 tByte 1 l]), (FK1, .tail tByte 1)] (.tup [pInt .i64 s.size, .d (.c (.v .nilIface))]) [(FK, .box tBld [.ptr FK 0, .app NK tByte 1 (l ++ bRows s)]), (NK, .tail tByte 1)] := by
  refine callS_of Try.func19 (by rfl) rfl (by kernel_rfl) (by rfl) [FK, FK1] rfl ?_
  ((conv => whnf); repeat ((first | with_reducible refine BCase.tt ?_ | with_reducible refine BCase.ff ?_); (conv => whnf)))
  refine CallP.ret [(FK, FK), (FK1, FK1)] _ _ _ _ _ _ _ (copyCheck_nil l) rfl rfl rfl rfl ⟨rfl, rfl, trivial⟩ ?_
  ((conv => whnf); repeat ((first | with_reducible refine BCase.tt ?_ | with_reducible refine BCase.ff ?_); (conv => whnf)))
  refine Need.mk (by show _ * 1 ≤ _; omega) ?_
  ((conv => whnf); repeat ((first | with_reducible refine BCase.tt ?_ | with_reducible refine BCase.ff ?_); (conv => whnf)))
  refine RetS.mk [(FK, FK), (FK1, FK1), (NK, 14)] [FK, FK1, NK] rfl rfl ?_ ?_ <;> (repeat' (first | exact rfl | exact trivial | exact Or.inl rfl | refine And.intro ?_ ?_))
theorem writeString_opt (l : List (List C)) (s : ByteArray) (hs : l.length + s.size ≤ 140737488355328) : CallS Try.prog 19 [.d (.ptr FK 0), pStr s] [] [(FK, .box tBld [.optp FK 0, .app FK1 tByte 1 l]), (FK1, .tail tByte 1)] (.tup [pInt .i64 s.size, .d (.c (.v .nilIface))]) [(FK, .box tBld [.ptr FK 0, .app NK tByte 1 (l ++ bRows s)]), (NK, .tail tByte 1)] :=
  CallS.opt (writeString_nil l s hs) (writeString_used l s hs)
theorem writeByte_used (l : List (List C)) (b : Int) (hs : l.length + 1 ≤ 140737488355328) : CallS Try.prog 55 [.d (.ptr FK 0), pInt .u8 b] [] [(FK, .box tBld [.ptr FK 0, .app FK1 tByte 1 l]), (FK1, .tail tByte 1)] (.d (.c (.v .nilIface))) [(FK, .box tBld [.ptr FK 0, .app NK tByte 1 (l ++ [[.v (.int .u8 b)]])]), (NK, .tail tByte 1)] := by
  refine callS_of Try.func55 (by rfl) rfl (by kernel_rfl) (by rfl) [FK, FK1] rfl ?_
  ((conv => whnf); repeat ((first | with_reducible refine BCase.tt ?_ | with_reducible refine BCase.ff ?_); (conv => whnf)))
  refine CallP.ret [(FK, FK), (FK1, FK1)] _ _ _ _ _ _ _ (copyCheck_used l) rfl rfl rfl rfl ⟨rfl, rfl, trivial⟩ ?_
  ((conv => whnf); repeat ((first | with_reducible refine BCase.tt ?_ | with_reducible refine BCase.ff ?_); (conv => whnf)))
  refine Need.mk (by show (_ + 1) * 1 ≤ _; omega) ?_
  ((conv => whnf); repeat ((first | with_reducible refine BCase.tt ?_ | with_reducible refine BCase.ff ?_); (conv => whnf)))
  refine RetS.mk [(FK, FK), (FK1, FK1), (NK, 14)] [FK, FK1, NK] rfl rfl ?_ ?_ <;> (repeat' (first | exact rfl | exact trivial | exact Or.inl rfl | refine And.intro ?_ ?_))
theorem writeByte_nil (l : List (List C)) (b : Int) (hs : l.length + 1 ≤ 140737488355328) : CallS Try.prog 55 [.d (.ptr FK 0), pInt .u8 b] [] [(FK, .box tBld [nilP, .app FK1 tByte 1 l]), (FK1, .tail tByte 1)] (.d (.c (.v .nilIface))) [(FK, .box tBld [.ptr FK 0, .app NK tByte 1 (l ++ [[.v (.int .u8 b)]])]), (NK, .tail tByte 1)] := by
  refine callS_of Try.func55 (by rfl) rfl (by kernel_rfl) (by rfl) [FK, FK1] rfl ?_
  ((conv => whnf); repeat ((first | with_reducible refine BCase.tt ?_ | with_reducible refine BCase.ff ?_); (conv => whnf)))
  refine CallP.ret [(FK, FK), (FK1, FK1)] _ _ _ _ _ _ _ (copyCheck_nil l) rfl rfl rfl rfl ⟨rfl, rfl, trivial⟩ ?_
  ((conv => whnf); repeat ((first | with_reducible refine BCase.tt ?_ | with_reducible refine BCase.ff ?_); (conv => whnf)))
  refine Need.mk (by show (_ + 1) * 1 ≤ _; omega) ?_
  ((conv => whnf); repeat ((first | with_reducible refine BCase.tt ?_ | with_reducible refine BCase.ff ?_); (conv => whnf)))
  refine RetS.mk [(FK, FK), (FK1, FK1), (NK, 14)] [FK, FK1, NK] rfl rfl ?_ ?_ <;> (repeat' (first | exact rfl | exact trivial | exact Or.inl rfl | refine And.intro ?_ ?_))
theorem writeByte_opt (l : List (List C)) (b : Int) (hs : l.length + 1 ≤ 140737488355328) : CallS Try.prog 55 [.d (.ptr FK 0), pInt .u8 b] [] [(FK, .box tBld [.optp FK 0, .app FK1 tByte 1 l]), (FK1, .tail tByte 1)] (.d (.c (.v .nilIface))) [(FK, .box tBld [.ptr FK 0, .app NK tByte 1 (l ++ [[.v (.int .u8 b)]])]), (NK, .tail tByte 1)] :=
  CallS.opt (writeByte_nil l b hs) (writeByte_used l b hs)
theorem string_of (l : List UInt8) : CallS Try.prog 23 [.d (.ptr FK 0)] [] [(FK, .box tBld [.optp FK 0, .app FK1 tByte 1 (byteRows l)]), (FK1, .tail tByte 1)] (pStr ⟨l.toArray⟩) [] := by
  refine callS_of Try.func23 (by rfl) rfl (by kernel_rfl) (by rfl) [FK, FK1] rfl ?_
  ((conv => whnf); repeat ((first | with_reducible refine BCase.tt ?_ | with_reducible refine BCase.ff ?_); (conv => whnf)))
  refine Need.mk rfl ?_
  ((conv => whnf); repeat ((first | with_reducible refine BCase.tt ?_ | with_reducible refine BCase.ff ?_); (conv => whnf)))
  refine Bytes.mk l rfl ?_
  ((conv => whnf); repeat ((first | with_reducible refine BCase.tt ?_ | with_reducible refine BCase.ff ?_); (conv => whnf)))
  refine RetS.mk [(FK, FK), (FK1, FK1)] [FK, FK1] rfl rfl ?_ ?_ <;> (repeat' (first | exact rfl | exact trivial | exact Or.inl rfl | refine And.intro ?_ ?_))
end Go.Proofs.Ytcecopdkaalfkaa.Pm
