/- the document's answers on pieces -/
import Derived.Test.YtpkifeagopceaaaDoorYLikeTop
namespace Go.Proofs.YtpkifeagopceaaaDoor.LikeP
open Go.RowKit K
theorem first_class (l : List UInt8) :
  ∀ P : Prop,
  (bt l 0 194 223 = true → bt l 0 224 224 = false → bt l 0 240 240 = false → bt l 0 225 236 = false → bt l 0 237 237 = false → bt l 0 238 239 = false → bt l 0 241 243 = false → bt l 0 244 244 = false → P) →
  (bt l 0 194 223 = false → bt l 0 224 224 = true → bt l 0 240 240 = false → bt l 0 225 236 = false → bt l 0 237 237 = false → bt l 0 238 239 = false → bt l 0 241 243 = false → bt l 0 244 244 = false → P) →
  (bt l 0 194 223 = false → bt l 0 224 224 = false → bt l 0 240 240 = false → bt l 0 225 236 = true → bt l 0 237 237 = false → bt l 0 238 239 = false → bt l 0 241 243 = false → bt l 0 244 244 = false → P) →
  (bt l 0 194 223 = false → bt l 0 224 224 = false → bt l 0 240 240 = false → bt l 0 225 236 = false → bt l 0 237 237 = true → bt l 0 238 239 = false → bt l 0 241 243 = false → bt l 0 244 244 = false → P) →
  (bt l 0 194 223 = false → bt l 0 224 224 = false → bt l 0 240 240 = false → bt l 0 225 236 = false → bt l 0 237 237 = false → bt l 0 238 239 = true → bt l 0 241 243 = false → bt l 0 244 244 = false → P) →
  (bt l 0 194 223 = false → bt l 0 224 224 = false → bt l 0 240 240 = true → bt l 0 225 236 = false → bt l 0 237 237 = false → bt l 0 238 239 = false → bt l 0 241 243 = false → bt l 0 244 244 = false → P) →
  (bt l 0 194 223 = false → bt l 0 224 224 = false → bt l 0 240 240 = false → bt l 0 225 236 = false → bt l 0 237 237 = false → bt l 0 238 239 = false → bt l 0 241 243 = true → bt l 0 244 244 = false → P) →
  (bt l 0 194 223 = false → bt l 0 224 224 = false → bt l 0 240 240 = false → bt l 0 225 236 = false → bt l 0 237 237 = false → bt l 0 238 239 = false → bt l 0 241 243 = false → bt l 0 244 244 = true → P) →
  (bt l 0 194 223 = false → bt l 0 224 224 = false → bt l 0 240 240 = false → bt l 0 225 236 = false → bt l 0 237 237 = false → bt l 0 238 239 = false → bt l 0 241 243 = false → bt l 0 244 244 = false → P) → P := by
 intro P h1 h2 h3 h4 h5 h6 h7 h8 h9
 unfold bt at *
 cases l with
 | nil => exact h9 rfl rfl rfl rfl rfl rfl rfl rfl
 | cons b l =>
  simp only [List.getElem?_cons_zero, Bool.and_eq_true, Bool.and_eq_false_iff, decide_eq_true_eq, decide_eq_false_iff_not] at *
  by_cases a : 194 ≤ b.toNat ∧ b.toNat ≤ 223
  ·exact h1 a (by omega) (by omega) (by omega) (by omega) (by omega) (by omega) (by omega)
  ·by_cases a2 : 224 = b.toNat
   ·exact h2 (by omega) (by omega) (by omega) (by omega) (by omega) (by omega) (by omega) (by omega)
   ·by_cases a3 : 225 ≤ b.toNat ∧ b.toNat ≤ 236
    ·exact h3 (by omega) (by omega) (by omega) (by omega) (by omega) (by omega) (by omega) (by omega)
    ·by_cases a4 : 237 = b.toNat
     ·exact h4 (by omega) (by omega) (by omega) (by omega) (by omega) (by omega) (by omega) (by omega)
     ·by_cases a5 : 238 ≤ b.toNat ∧ b.toNat ≤ 239
      ·exact h5 (by omega) (by omega) (by omega) (by omega) (by omega) (by omega) (by omega) (by omega)
      ·by_cases a6 : 240 = b.toNat
       ·exact h6 (by omega) (by omega) (by omega) (by omega) (by omega) (by omega) (by omega) (by omega)
       ·by_cases a7 : 241 ≤ b.toNat ∧ b.toNat ≤ 243
        ·exact h7 (by omega) (by omega) (by omega) (by omega) (by omega) (by omega) (by omega) (by omega)
        ·by_cases a8 : 244 = b.toNat
         ·exact h8 (by omega) (by omega) (by omega) (by omega) (by omega) (by omega) (by omega) (by omega)
         ·exact h9 (by omega) (by omega) (by omega) (by omega) (by omega) (by omega) (by omega) (by omega)
end Go.Proofs.YtpkifeagopceaaaDoor.LikeP
