-- printed
import Derived.Test.YtdjnneflpkllmaaDoorR3
import Derived.Test.YtdjnneflpkllmaaDoorR20
