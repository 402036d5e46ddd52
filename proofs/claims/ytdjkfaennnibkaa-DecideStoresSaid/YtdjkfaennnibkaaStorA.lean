/- Which responses may be stored: both walks. -/
import Derived.Test.YtdjkfaennnibkaaStor1
import Derived.Test.YtdjkfaennnibkaaStor3
